/- The plain law: what the document's answers of layer 6 come to. -/
import Derived.Test.YtfdehecekghlmaaRefE
import Derived.Test.YtfdehecekghlmaaMc
set_option linter.unusedVariables false
set_option linter.unusedSimpArgs false
namespace Go.Proofs.Ytfdehecekghlmaa.PFoldRing
open Go.RowKit Go.Viv

theorem w64 {a : Int} (h1 : -9223372036854775808 ≤ a) (h2 : a ≤ 9223372036854775807) : wrap64 a = a := by unfold wrap64; omega

theorem mod_f (a n : Int) (hn : 0 < n) (hn2 : n ≤ 4611686018427387904) : vivariumref06_mod.f a n = some (a % n) := by
  obtain ⟨h1, h2⟩ := tmod_bounds a n hn
  unfold vivariumref06_mod.f
  rw [if_neg (by omega), w64 (by omega) (by omega), mod_eq1 a n hn]
theorem odd_f (a : Int) : vivariumref06_odd.f a = some (a % 2 == 1) := by unfold vivariumref06_odd.f; rw [mod_f a 2 (by decide) (by decide)]; rfl
theorem over_f (a n : Int) (hn : 0 < n) (hn2 : n ≤ 65536) (h1 : -4611686018427387904 ≤ a) (h2 : a ≤ 4611686018427387904) : vivariumref06_over.f a n = some (a / n) := by
  have h3 := Int.emod_nonneg a (by omega : n ≠ 0)
  have h4 := Int.emod_lt_of_pos a hn
  have h5 := ediv_bound a n 4611686018427387904 (by omega) (by omega) h1 h2
  unfold vivariumref06_over.f
  rw [mod_f a n hn (by omega)]
  simp only [Option.bind_some]
  rw [if_neg (by omega), w64 (a := a - a % n) (by omega) (by omega), over_eq a n hn, w64 (by omega) (by omega)]
theorem tile_f (u W : Int) (h0 : 0 ≤ W) (h3 : W ≤ 65536) (h1 : -4611686018427387904 ≤ u) (h2 : u ≤ 4611686018427387904) : vivariumref06_tile.f u W = some (u / W) := by
  unfold vivariumref06_tile.f
  split
  · rename_i h; subst h; simp
  · rw [over_f u W (by omega) h3 h1 h2]; rfl
theorem within_f (u W : Int) (h0 : 0 ≤ W) (h3 : W ≤ 65536) : vivariumref06_within.f u W = some (u % W) := by
  unfold vivariumref06_within.f
  split
  · rename_i h; subst h; simp
  · rw [mod_f u W (by omega) (by omega)]; rfl
theorem first_f (W : Int) (h0 : 0 ≤ W) (h3 : W ≤ 65536) : vivariumref06_first.f W = some (first W) := by
  unfold vivariumref06_first.f first
  rw [Int.tdiv_eq_ediv_of_nonneg h0, w64 (a := W / 2) (by omega) (by omega), w64 (by omega) (by omega)]
theorem Near_f (x : Int) : vivariumref06_Near.f x = some (nearI x) := by
  unfold vivariumref06_Near.f nearI
  split
  · rename_i h; simp; intro _; exact h
  · rename_i h; simp; intro h'; omega
theorem Glued_f (k W H t s : Int) : vivariumref06_Glued.f k W H t s = some (gluedI k) := by
  unfold vivariumref06_Glued.f gluedI
  split
  · rename_i h; subst h; rfl
  · split
    · rename_i h; subst h; rfl
    · congr 1; rw [Bool.eq_iff_iff]; simp; omega
theorem inside_f (u W m : Int) (h0 : 0 ≤ W) (h3 : W ≤ 65536) (m0 : 0 ≤ m) (m1 : m ≤ 1) : vivariumref06_inside.f u W m = some (decide (W = 0 ∨ (-m ≤ u ∧ u < W + m))) := by
  unfold vivariumref06_inside.f
  rw [w64 (a := -m) (by omega) (by omega), w64 (a := W + m) (by omega) (by omega)]
  split
  · rename_i h; subst h; simp
  · split
    · congr 1; rw [Bool.eq_iff_iff]; simp; omega
    · congr 1; symm; simp; omega
theorem inside0_f (u W : Int) (h0 : 0 ≤ W) (h3 : W ≤ 65536) : vivariumref06_inside.f u W 0 = some (onI u W) := by
  rw [inside_f u W 0 h0 h3 (by decide) (by decide)]; unfold onI; congr 1; rw [Bool.eq_iff_iff]; simp
theorem inside1_f (u W : Int) (h0 : 0 ≤ W) (h3 : W ≤ 65536) : vivariumref06_inside.f u W 1 = some (ringI u W) := by
  rw [inside_f u W 1 h0 h3 (by decide) (by decide)]; unfold ringI; congr 1; rw [Bool.eq_iff_iff]; simp; omega

theorem side_f (k W H t s : Int) : vivariumref04_side.f k W H t s = some (if t = 2 then H else W) := by unfold vivariumref04_side.f; split <;> rfl

/-- the stages of Check -/
def ck4 (k W H s : Int) (b : Bool) : Int := if b = true then 43 else if k = 2 ∧ (s = 0 ∨ W = 0 ∨ H = 0) then 43 else 0
theorem Check_j4 (n : Nat) (k W H t s : Int) (b : Bool) : vivariumref04_Check.j4 (n + 1) b k W H t s = some (ck4 k W H s b) := by
  simp only [vivariumref04_Check.j4, ck4]
  cases b
  · simp only [Bool.false_eq_true, ↓reduceIte]
    (repeat' split) <;> first | rfl | (exfalso; omega)
  · rfl
def ck3 (k W H t s : Int) (b : Bool) : Int :=
  if b = true then 44 else if t = 0 ∧ s ≠ 0 then 43 else if t = 0 then 0
  else ck4 k W H s (decide ((if t = 2 then H else W) ≤ s ∨ s ≤ -(if t = 2 then H else W)))
theorem Check_j3 (n : Nat) (k W H t s : Int) (b : Bool) (hW : -9223372036854775807 ≤ W) (hH : -9223372036854775807 ≤ H) (hW2 : W ≤ 9223372036854775807) (hH2 : H ≤ 9223372036854775807) : vivariumref04_Check.j3 (n + 2) b k W H t s = some (ck3 k W H t s b) := by
  simp only [vivariumref04_Check.j3, ck3]
  cases b
  · simp only [Bool.false_eq_true, ↓reduceIte]
    by_cases h0 : t = 0
    · subst h0
      simp only [↓reduceIte, true_and]
      split
      · rename_i h; rw [if_neg (by simpa using h)]
      · rename_i h; simp [h]
    · rw [if_neg h0, if_neg (by omega), if_neg h0, side_f]
      simp only [Option.bind_some, Check_j4]
      generalize hT : (if t = 2 then H else W) = T
      have hT2 : -9223372036854775807 ≤ T ∧ T ≤ 9223372036854775807 := by subst hT; split <;> omega
      split
      · rename_i h; rw [show decide (T ≤ s ∨ s ≤ -T) = true by simp; omega]
      · rename_i h; rw [w64 (by omega) (by omega)]; congr 2; rw [Bool.eq_iff_iff]; simp; omega
  · rfl
def ck2 (k W H t s : Int) (b : Bool) : Int :=
  if b = true then 42 else ck3 k W H t s (decide (2 < t ∨ (k ≠ 2 ∧ k ≠ 3 ∧ t ≠ 0) ∨ (k = 3 ∧ t = 0)))
theorem Check_j2 (n : Nat) (k W H t s : Int) (b : Bool) (hW : -9223372036854775807 ≤ W) (hH : -9223372036854775807 ≤ H) (hW2 : W ≤ 9223372036854775807) (hH2 : H ≤ 9223372036854775807) : vivariumref04_Check.j2 (n + 3) b k W H t s = some (ck2 k W H t s b) := by
  simp only [vivariumref04_Check.j2, ck2, Check_j3 n k W H t s _ hW hH hW2 hH2]
  cases b
  · simp only [Bool.false_eq_true, ↓reduceIte]
    (repeat' split) <;> (congr 2; rw [Bool.eq_iff_iff]; simp; try omega)
  · rfl
def ck1 (k W H t s : Int) (b : Bool) : Int :=
  if b = true then 41 else ck2 k W H t s (decide (3 ≤ k ∧ (W = 0 ∨ H = 0)))
theorem Check_j1 (n : Nat) (k W H t s : Int) (b : Bool) (hW : -9223372036854775807 ≤ W) (hH : -9223372036854775807 ≤ H) (hW2 : W ≤ 9223372036854775807) (hH2 : H ≤ 9223372036854775807) : vivariumref04_Check.j1 (n + 4) b k W H t s = some (ck1 k W H t s b) := by
  simp only [vivariumref04_Check.j1, ck1, Check_j2 n k W H t s _ hW hH hW2 hH2]
  cases b
  · simp only [Bool.false_eq_true, ↓reduceIte]
    (repeat' split) <;> (congr 2; rw [Bool.eq_iff_iff]; simp; try omega)
  · rfl
theorem Check_j1t (n : Nat) (k W H t s : Int) : vivariumref04_Check.j1 (n + 1) true k W H t s = some 41 := rfl
theorem Check_f (n : Nat) (k W H t s : Int) (t0 : 0 ≤ t) : vivariumref04_Check.f (n + 5) k W H t s = some (checkE k W H t s) := by
  unfold vivariumref04_Check.f
  by_cases h1 : k < 1 ∨ 5 < k
  · have e : checkE k W H t s = 40 := by unfold checkE; rw [if_pos h1]
    rw [e]
    rcases h1 with h1 | h1
    · rw [if_pos h1]; rfl
    · rw [if_neg (by omega), show decide (k > 5) = true by simpa using h1]; rfl
  · rw [if_neg (by omega), show decide (k > 5) = false by simp; omega]
    simp only [vivariumref04_Check.j0, Bool.false_eq_true, ↓reduceIte, Check_j1t]
    by_cases h2 : W < 0 ∨ 65536 < W ∨ H < 0 ∨ 65536 < H
    · have e : checkE k W H t s = 41 := by unfold checkE; rw [if_neg h1, if_pos h2]
      rw [e]
      split
      · rfl
      split
      · rfl
      split
      · rfl
      split
      · rfl
      exfalso; omega
    · rw [if_neg (by omega), if_neg (by omega), if_neg (by omega), if_neg (by omega)]
      simp only [Check_j1 n k W H t s _ (by omega) (by omega) (by omega) (by omega)]
      have e : checkE k W H t s = ck1 k W H t s (decide (k = 5 ∧ W ≠ H)) := by
        unfold checkE ck1 ck2 ck3 ck4
        simp only [decide_eq_true_eq]
        rw [if_neg h1, if_neg h2]
        by_cases a1 : k = 5 ∧ W ≠ H
        · rw [if_pos a1, if_pos a1]
        rw [if_neg a1, if_neg a1]
        by_cases a2 : 3 ≤ k ∧ (W = 0 ∨ H = 0)
        · rw [if_pos a2, if_pos a2]
        rw [if_neg a2, if_neg a2]
        by_cases a3 : 2 < t ∨ (k ≠ 2 ∧ k ≠ 3 ∧ t ≠ 0) ∨ (k = 3 ∧ t = 0)
        · rw [if_pos a3, if_pos a3]
        rw [if_neg a3, if_neg a3]
        by_cases a4 : t = 0 ∧ s ≠ 0
        · rw [if_pos a4, if_pos a4]
        rw [if_neg a4, if_neg a4]
        by_cases a5 : t = 0
        · rw [if_pos a5, if_pos a5]
        rw [if_neg a5, if_neg a5]
        have hT : (t = 2 → (if t = 2 then H else W) = H) ∧ (t = 1 → (if t = 2 then H else W) = W) := ⟨fun h => by rw [if_pos h], fun h => by rw [if_neg (by omega)]⟩
        generalize (if t = 2 then H else W) = T at hT ⊢
        have ht : t = 1 ∨ t = 2 := by omega
        by_cases b1 : T ≤ s ∨ s ≤ -T
        · rw [if_pos b1, if_pos]
          rcases ht with ht | ht
          · have := hT.2 ht; omega
          · have := hT.1 ht; omega
        · rw [if_neg b1]
          by_cases b2 : k = 2 ∧ (s = 0 ∨ W = 0 ∨ H = 0)
          · rw [if_pos b2, if_pos (.inr (.inr b2))]
          · rw [if_neg b2, if_neg]
            rintro (h | h | h)
            · have := hT.2 h.1; omega
            · have := hT.1 h.1; omega
            · exact b2 h
      rw [e]
      split
      · rename_i h5; congr 2; rw [Bool.eq_iff_iff]; simp; omega
      · rename_i h5; congr 2; symm; simp; omega


theorem refused_f (n : Nat) (k W H t s x y : Int) (t0 : 0 ≤ t) : vivariumref06_refused.f (n + 5) k W H t s x y = some (if checkE k W H t s ≠ 0 then 9 else if (nearI x && nearI y) = false then 5 else 0) := by
  unfold vivariumref06_refused.f
  rw [Check_f n k W H t s t0]
  simp only [Option.bind_some, Near_f]
  by_cases h : checkE k W H t s = 0
  · cases nearI x <;> cases nearI y <;> simp [h]
  · simp [h]

theorem folded_f (n : Nat) (k W H t s u v : Int) (h : TopoOk k W H t s) (hg : gluedI k = true) (u1 : -2199023255552 ≤ u) (u2 : u ≤ 2199023255552) (v1 : -2199023255552 ≤ v) (v2 : v ≤ 2199023255552) :
    vivariumref06_folded.f (n + 4) k W H t s u v = some (cellU k W H t s u v, cellV k W H t s u v) := by
  have w0 := h.w0; have w1 := h.w1; have h0 := h.h0; have h1 := h.h1; have hs := h.sh
  have hj := ediv_bound v H 2199023255552 h0 (by omega) v1 v2
  have hi := ediv_bound u W 2199023255552 w0 (by omega) u1 u2
  have m1 := mul_bound (v / H) s 2199023255552 65536 hj.1 hj.2 (by omega) (by omega)
  have m2 := mul_bound (u / W) s 2199023255552 65536 hi.1 hi.2 (by omega) (by omega)
  unfold vivariumref06_folded.f
  rw [tile_f u W w0 w1 (by omega) (by omega), tile_f v H h0 h1 (by omega) (by omega), within_f u W w0 w1, within_f v H h0 h1]
  simp only [Option.bind_some]
  have hk : k = 2 ∨ k = 3 ∨ k = 4 := by unfold gluedI at hg; simp at hg; omega
  have sub1 : ∀ a b m : Int, (a - b % m) % m = (a - b) % m := fun a b m => by rw [Int.sub_emod, Int.emod_emod_of_dvd b (Int.dvd_refl m), ← Int.sub_emod]
  rcases hk with rfl | rfl | rfl
  · rw [if_pos rfl]
    have ht : t = 0 ∨ t = 1 ∨ t = 2 := by have := h.t0; have := h.t2; omega
    rcases ht with rfl | rfl | rfl
    · simp [vivariumref06_folded.j0, vivariumref06_folded.j1, vivariumref06_folded.j2, vivariumref06_folded.j3, cellU, cellV]
    · have hw := h.torus rfl (by decide)
      have e0 := Int.emod_nonneg (v / H * s) (by omega : W ≠ 0)
      have e1 := Int.emod_lt_of_pos (v / H * s) hw.2.1
      simp only [vivariumref06_folded.j0, beq_self_eq_true, ↓reduceIte]
      rw [w64 (a := v / H * s) (by omega) (by omega), mod_f _ W (by omega) (by omega)]
      simp only [Option.bind_some]
      rw [w64 (by omega) (by omega), mod_f _ W (by omega) (by omega), sub1]
      simp [cellU, cellV]
    · have hw := h.torus rfl (by decide)
      have e0 := Int.emod_nonneg (u / W * s) (by omega : H ≠ 0)
      have e1 := Int.emod_lt_of_pos (u / W * s) hw.2.2
      simp only [vivariumref06_folded.j0, vivariumref06_folded.j1, beq_self_eq_true, ↓reduceIte, Int.reduceBEq, Bool.false_eq_true]
      rw [w64 (a := u / W * s) (by omega) (by omega), mod_f _ H (by omega) (by omega)]
      simp only [Option.bind_some]
      rw [w64 (by omega) (by omega), mod_f _ H (by omega) (by omega), sub1]
      simp [cellU, cellV]
  · rw [if_neg (by decide)]
    have hw := h.ends (by decide)
    have ht : t = 1 ∨ t = 2 := by have := h.t0; have := h.t2; have := h.klein rfl; omega
    rcases ht with rfl | rfl
    · cases ho : (v / H % 2 == 1) with
      | true =>
        simp only [vivariumref06_folded.j0, vivariumref06_folded.j1, vivariumref06_folded.j2, odd_f, ho, ↓reduceIte, Int.reduceEq, Bool.false_eq_true, Option.bind_some]
        rw [w64 (a := W - 1) (by omega) (by omega), w64 (a := W - 1 - u) (by omega) (by omega), w64 (by omega) (by omega), mod_f _ W (by omega) (by omega)]
        simp at ho
        simp [cellU, cellV, ho]
      | false =>
        simp only [vivariumref06_folded.j0, vivariumref06_folded.j1, vivariumref06_folded.j2, vivariumref06_folded.j3, odd_f, ho, ↓reduceIte, Int.reduceEq, Bool.false_eq_true, Option.bind_some]
        simp at ho
        simp [cellU, cellV, ho]
    · cases ho : (u / W % 2 == 1) with
      | true =>
        simp only [vivariumref06_folded.j0, vivariumref06_folded.j1, vivariumref06_folded.j2, vivariumref06_folded.j3, odd_f, ho, ↓reduceIte, Int.reduceEq, Bool.false_eq_true, Option.bind_some]
        rw [w64 (a := H - 1) (by omega) (by omega), w64 (a := H - 1 - v) (by omega) (by omega), w64 (by omega) (by omega), mod_f _ H (by omega) (by omega)]
        simp at ho
        simp [cellU, cellV, ho]
      | false =>
        simp only [vivariumref06_folded.j0, vivariumref06_folded.j1, vivariumref06_folded.j2, vivariumref06_folded.j3, odd_f, ho, ↓reduceIte, Int.reduceEq, Bool.false_eq_true, Option.bind_some]
        simp at ho
        simp [cellU, cellV, ho]
  · rw [if_neg (by decide)]
    have hw := h.ends (by decide)
    have e0 := Int.emod_nonneg u (by omega : W ≠ 0)
    have e1 := Int.emod_lt_of_pos u hw.1
    have e2 := Int.emod_nonneg v (by omega : H ≠ 0)
    have e3 := Int.emod_lt_of_pos v hw.2
    cases ho : (v / H % 2 == 1) <;> cases ho2 : (u / W % 2 == 1)
    all_goals
      simp only [vivariumref06_folded.j0, vivariumref06_folded.j1, vivariumref06_folded.j2, vivariumref06_folded.j3, odd_f, ho, ho2, ↓reduceIte, Int.reduceEq, Bool.false_eq_true, Option.bind_some]
      try rw [w64 (a := W - 1) (by omega) (by omega)]
      try rw [w64 (a := H - 1) (by omega) (by omega)]
      try rw [w64 (a := W - 1 - u % W) (by omega) (by omega)]
      try rw [w64 (a := H - 1 - v % H) (by omega) (by omega)]
      simp at ho ho2
      simp [cellU, cellV, ho, ho2]


theorem In_f (k W H t s x y : Int) (w0 : 0 ≤ W) (w1 : W ≤ 65536) (h0 : 0 ≤ H) (h1 : H ≤ 65536) (x1 : -1099511627776 ≤ x) (x2 : x ≤ 1099511627776) (y1 : -1099511627776 ≤ y) (y2 : y ≤ 1099511627776) :
    vivariumref06_In.f k W H t s x y = some (onI (x - first W) W && onI (y - first H) H) := by
  obtain ⟨fw1, fw2⟩ := first_bounds W w0 w1
  obtain ⟨fh1, fh2⟩ := first_bounds H h0 h1
  unfold vivariumref06_In.f
  rw [first_f W w0 w1]
  simp only [Option.bind_some]
  rw [w64 (by omega) (by omega), inside0_f _ W w0 w1]
  simp only [Option.bind_some]
  cases onI (x - first W) W
  · rfl
  · rw [if_pos rfl, first_f H h0 h1]
    simp only [Option.bind_some]
    rw [w64 (by omega) (by omega), inside0_f _ H h0 h1]
    simp

theorem Cell_f (n : Nat) (k W H t s x y : Int) (t0 : 0 ≤ t) : vivariumref06_Cell.f (n + 5) k W H t s x y = some (cellX k W H t s x y, cellY k W H t s x y, cellE k W H t s x y) := by
  unfold vivariumref06_Cell.f
  rw [refused_f n k W H t s x y t0]
  simp only [Option.bind_some]
  by_cases hc : checkE k W H t s = 0
  · rw [if_neg (c := checkE k W H t s ≠ 0) (by simp [hc])]
    cases hn : (nearI x && nearI y) with
    | false =>
      have e0 : cellE k W H t s x y = 5 := by unfold cellE; rw [if_neg (by simp [hc]), if_pos hn]
      have e1 : cellX k W H t s x y = 0 := by unfold cellX; rw [if_pos (by simp [e0])]
      have e2 : cellY k W H t s x y = 0 := by unfold cellY; rw [if_pos (by simp [e0])]
      simp [e0, e1, e2]
    | true =>
      simp only [Bool.and_eq_true] at hn
      obtain ⟨x1, x2⟩ := nearI_iff.1 hn.1
      obtain ⟨y1, y2⟩ := nearI_iff.1 hn.2
      have h := topoOk t0 hc
      have w0 := h.w0; have w1 := h.w1; have h0 := h.h0; have h1 := h.h1
      obtain ⟨fw1, fw2⟩ := first_bounds W w0 w1
      obtain ⟨fh1, fh2⟩ := first_bounds H h0 h1
      simp only [Bool.true_eq_false, ↓reduceIte, Glued_f, Option.bind_some]
      have hn' : ¬ (nearI x && nearI y) = false := by simp [hn.1, hn.2]
      by_cases hg : gluedI k = true
      · have e0 : cellE k W H t s x y = 0 := by unfold cellE; rw [if_neg (by simp [hc]), if_neg hn', if_pos hg]
        have e1 : cellX k W H t s x y = cellU k W H t s (x - first W) (y - first H) + first W := by unfold cellX; rw [if_neg (by simp [e0]), if_pos hg]
        have e2 : cellY k W H t s x y = cellV k W H t s (x - first W) (y - first H) + first H := by unfold cellY; rw [if_neg (by simp [e0]), if_pos hg]
        obtain ⟨cu1, cu2⟩ := cellU_bounds (u := x - first W) (v := y - first H) h (by omega) (by omega)
        obtain ⟨cv1, cv2⟩ := cellV_bounds (u := x - first W) (v := y - first H) h (by omega) (by omega)
        rw [if_pos hg, first_f W w0 w1, first_f H h0 h1]
        simp only [Option.bind_some]
        rw [w64 (a := x - first W) (by omega) (by omega), w64 (a := y - first H) (by omega) (by omega), folded_f (n + 1) k W H t s _ _ h hg (by omega) (by omega) (by omega) (by omega)]
        simp only [Option.bind_some]
        rw [w64 (by omega) (by omega), w64 (by omega) (by omega), e0, e1, e2]
      · rw [if_neg hg, In_f k W H t s x y w0 w1 h0 h1 x1 x2 y1 y2]
        simp only [Option.bind_some]
        cases hin : (onI (x - first W) W && onI (y - first H) H) with
        | true =>
          have e0 : cellE k W H t s x y = 0 := by unfold cellE; rw [if_neg (by simp [hc]), if_neg hn', if_neg hg, if_pos hin]
          have e1 : cellX k W H t s x y = x := by unfold cellX; rw [if_neg (by simp [e0]), if_neg hg]
          have e2 : cellY k W H t s x y = y := by unfold cellY; rw [if_neg (by simp [e0]), if_neg hg]
          rw [e0, e1, e2]; rfl
        | false =>
          have e0 : cellE k W H t s x y = 60 := by unfold cellE; rw [if_neg (by simp [hc]), if_neg hn', if_neg hg, if_neg (by simp [hin])]
          have e1 : cellX k W H t s x y = 0 := by unfold cellX; rw [if_pos (by simp [e0])]
          have e2 : cellY k W H t s x y = 0 := by unfold cellY; rw [if_pos (by simp [e0])]
          rw [e0, e1, e2]; rfl
  · have e0 : cellE k W H t s x y = 9 := by unfold cellE; rw [if_pos hc]
    have e1 : cellX k W H t s x y = 0 := by unfold cellX; rw [if_pos (by simp [e0])]
    have e2 : cellY k W H t s x y = 0 := by unfold cellY; rw [if_pos (by simp [e0])]
    simp [hc, e0, e1, e2]

theorem ball_f (m : Nat) (n u v : Int) (h1 : 1 ≤ n) (h2 : n ≤ 65536) (u1 : -1 ≤ u) (u2 : u ≤ n) (v1 : -1 ≤ v) (v2 : v ≤ n) (hout : (onI u n && onI v n) = false) :
    vivariumref06_ball.f (m + 4) n u v = some (ballU n u v, ballV n u v) := by
  have ho : ¬ ((0 ≤ u ∧ u < n) ∧ (0 ≤ v ∧ v < n)) := by
    intro h; rw [← Bool.not_eq_true] at hout; apply hout; simp only [onI, Bool.and_eq_true, decide_eq_true_eq]; omega
  have e1 : ballU n u v = (if (u = -1 ∨ v = -1) ∧ (u = n ∨ v = n) ∧ v < u then 0 else if (u = -1 ∨ v = -1) ∧ (u = n ∨ v = n) then n - 1 else if u = -1 ∨ v = -1 then max v 0 else min v (n - 1)) := by
    unfold ballU; rw [if_neg (by simp [hout])]
  have e2 : ballV n u v = (if (u = -1 ∨ v = -1) ∧ (u = n ∨ v = n) ∧ v < u then n - 1 else if (u = -1 ∨ v = -1) ∧ (u = n ∨ v = n) then 0 else if u = -1 ∨ v = -1 then max u 0 else min u (n - 1)) := by
    unfold ballV; rw [if_neg (by simp [hout])]
  rw [e1, e2]
  unfold vivariumref06_ball.f
  simp only [vivariumref06_ball.j0, vivariumref06_ball.j1, vivariumref06_ball.j2, vivariumref06_ball.j3, w64 (a := n - 1) (by omega) (by omega), Bool.false_eq_true, ↓reduceIte, beq_iff_eq]
  (repeat' split) <;> first | (exfalso; omega) | (simp only [Option.some.injEq, Prod.mk.injEq] <;> omega)


/-- a place of the grid is its own cell -/
theorem cell_own {k W H t s u v : Int} (h : TopoOk k W H t s) (hu : onI u W = true) (hv : onI v H = true) : cellU k W H t s u v = u ∧ cellV k W H t s u v = v := by
  have w0 := h.w0; have h0 := h.h0
  have hu' : u % W = u ∧ u / W = 0 := by
    simp only [onI, decide_eq_true_eq] at hu
    rcases hu with rfl | hu
    · simp
    · exact ⟨Int.emod_eq_of_lt hu.1 hu.2, Int.ediv_eq_zero_of_lt hu.1 hu.2⟩
  have hv' : v % H = v ∧ v / H = 0 := by
    simp only [onI, decide_eq_true_eq] at hv
    rcases hv with rfl | hv
    · simp
    · exact ⟨Int.emod_eq_of_lt hv.1 hv.2, Int.ediv_eq_zero_of_lt hv.1 hv.2⟩
  unfold cellU cellV
  rw [hu'.1, hv'.1, hu'.2, hv'.2]
  simp [hu'.1, hv'.1]

theorem Ring_f (n : Nat) (k W H t s x y : Int) (t0 : 0 ≤ t) : vivariumref06_Ring.f (n + 6) k W H t s x y = some (ringX k W H t s x y, ringY k W H t s x y, ringB k W H t s x y, ringE k W H t s x y) := by
  have no : ∀ e : Int, ringE k W H t s x y = e → e ≠ 0 → ringB k W H t s x y = false ∧ ringX k W H t s x y = 0 ∧ ringY k W H t s x y = 0 := by
    intro e he h0
    have hb : ringB k W H t s x y = false := by unfold ringB; rw [he]; simp [h0]
    exact ⟨hb, by unfold ringX; rw [if_pos hb], by unfold ringY; rw [if_pos hb]⟩
  unfold vivariumref06_Ring.f
  rw [refused_f (n + 1) k W H t s x y t0]
  simp only [Option.bind_some]
  by_cases hc : checkE k W H t s = 0
  · rw [if_neg (c := checkE k W H t s ≠ 0) (by simp [hc])]
    cases hn : (nearI x && nearI y) with
    | false =>
      have e : ringE k W H t s x y = 5 := by unfold ringE; rw [if_neg (by simp [hc]), if_pos hn]
      obtain ⟨e1, e2, e3⟩ := no 5 e (by decide)
      simp [e, e1, e2, e3]
    | true =>
      have hn' : ¬ (nearI x && nearI y) = false := by simp [hn]
      simp only [Bool.and_eq_true] at hn
      obtain ⟨x1, x2⟩ := nearI_iff.1 hn.1
      obtain ⟨y1, y2⟩ := nearI_iff.1 hn.2
      have h := topoOk t0 hc
      have w0 := h.w0; have w1 := h.w1; have h0 := h.h0; have h1 := h.h1; have k1 := h.k1; have k5 := h.k5
      obtain ⟨fw1, fw2⟩ := first_bounds W w0 w1
      obtain ⟨fh1, fh2⟩ := first_bounds H h0 h1
      simp only [Bool.true_eq_false, ↓reduceIte]
      rw [first_f W w0 w1, first_f H h0 h1]
      simp only [Option.bind_some]
      rw [w64 (a := x - first W) (by omega) (by omega), w64 (a := y - first H) (by omega) (by omega), inside1_f _ W w0 w1, inside1_f _ H h0 h1]
      simp only [Option.bind_some]
      cases hr : (ringI (x - first W) W && ringI (y - first H) H) with
      | false =>
        have e : ringE k W H t s x y = 60 := by unfold ringE; rw [if_neg (by simp [hc]), if_neg hn', if_neg (by simp [hr])]
        obtain ⟨e1, e2, e3⟩ := no 60 e (by decide)
        rw [e, e1, e2, e3]
        cases hr1 : ringI (x - first W) W <;> cases hr2 : ringI (y - first H) H <;> simp only [hr1, hr2, Bool.and_true, Bool.and_false, Bool.and_self, reduceCtorEq] at hr
        · rfl
        · rfl
        · rfl
      | true =>
        have e : ringE k W H t s x y = 0 := by unfold ringE; rw [if_neg (by simp [hc]), if_neg hn', if_pos hr]
        simp only [Bool.and_eq_true] at hr
        rw [hr.1, hr.2]
        simp only [↓reduceIte, Bool.not_true, vivariumref06_Ring.j0, Bool.false_eq_true]
        rw [In_f k W H t s x y w0 w1 h0 h1 x1 x2 y1 y2]
        simp only [Option.bind_some]
        cases hin : (onI (x - first W) W && onI (y - first H) H) with
        | true =>
          rw [if_pos rfl]
          have hb : ringB k W H t s x y = true := by unfold ringB; rw [e, hin]; simp
          have hin' := hin
          simp only [Bool.and_eq_true] at hin'
          obtain ⟨c1, c2⟩ := cell_own h hin'.1 hin'.2
          have eX : ringX k W H t s x y = x := by
            unfold ringX
            rw [if_neg (by simp [hb]), c1]
            split
            · omega
            split
            · rename_i h5
              subst h5
              have hs := h.sphere rfl
              unfold ballU
              rw [if_pos (by rw [hs] at hin ⊢; exact hin)]; omega
            · rfl
          have eY : ringY k W H t s x y = y := by
            unfold ringY
            rw [if_neg (by simp [hb]), c2]
            split
            · omega
            split
            · rename_i h5
              subst h5
              have hs := h.sphere rfl
              unfold ballV
              rw [if_pos (by rw [hs] at hin ⊢; exact hin)]; omega
            · rfl
          rw [e, hb, eX, eY]
        | false =>
          rw [if_neg (by simp)]
          by_cases hk1 : k = 1
          · subst hk1
            have hb : ringB 1 W H t s x y = false := by unfold ringB; rw [hin]; simp
            rw [if_pos rfl, e, hb, show ringX 1 W H t s x y = 0 by unfold ringX; rw [if_pos hb], show ringY 1 W H t s x y = 0 by unfold ringY; rw [if_pos hb]]
          · have hb : ringB k W H t s x y = true := by unfold ringB; rw [e]; simp [hk1]
            rw [if_neg hk1]
            by_cases hk5 : k = 5
            · subst hk5
              have hs := h.sphere rfl
              have hW := (h.ends (by decide)).1
              have hr1 := hr.1; have hr2 := hr.2
              simp only [ringI, decide_eq_true_eq] at hr1 hr2
              have hb1 := ball_bounds (n := W) (u := x - first W) (v := y - first H) (by omega) (by omega) (by omega) (by omega) (by omega)
              rw [if_pos rfl, ball_f (n + 1) W _ _ (by omega) w1 (by omega) (by omega) (by omega) (by omega) (by have := hin; rw [← hs] at this ⊢; exact this)]
              simp only [Option.bind_some]
              rw [first_f W w0 w1, first_f H h0 h1]
              simp only [Option.bind_some]
              rw [w64 (by omega) (by omega), w64 (by omega) (by omega), e, hb]
              rw [show ringX 5 W H t s x y = ballU W (x - first W) (y - first H) + first W by unfold ringX; rw [if_neg (by simp [hb]), if_neg (by decide), if_pos rfl], show ringY 5 W H t s x y = ballV W (x - first W) (y - first H) + first H by unfold ringY; rw [if_neg (by simp [hb]), if_neg (by decide), if_pos rfl]]
            · have hg : gluedI k = true := by unfold gluedI; simp; omega
              have e0 : cellE k W H t s x y = 0 := by unfold cellE; rw [if_neg (by simp [hc]), if_neg hn', if_pos hg]
              have e1 : cellX k W H t s x y = cellU k W H t s (x - first W) (y - first H) + first W := by unfold cellX; rw [if_neg (by simp [e0]), if_pos hg]
              have e2 : cellY k W H t s x y = cellV k W H t s (x - first W) (y - first H) + first H := by unfold cellY; rw [if_neg (by simp [e0]), if_pos hg]
              rw [if_neg hk5, Cell_f n k W H t s x y t0]
              simp only [Option.bind_some]
              rw [e0, e1, e2, e, hb]
              rw [show ringX k W H t s x y = cellU k W H t s (x - first W) (y - first H) + first W by unfold ringX; rw [if_neg (by simp [hb]), if_pos hg], show ringY k W H t s x y = cellV k W H t s (x - first W) (y - first H) + first H by unfold ringY; rw [if_neg (by simp [hb]), if_pos hg]]
  · have e : ringE k W H t s x y = 9 := by unfold ringE; rw [if_pos hc]
    obtain ⟨e1, e2, e3⟩ := no 9 e (by decide)
    simp [hc, e, e1, e2, e3]

/-- the document's answers, as calls -/
theorem refCell_calls (k W H t s x y : Int) (w : World) (t0 : 0 ≤ t) :
    Calls Try.prog 13 #[topoV k W H t s, pt x y] w (Ret (.tuple #[pt (cellX k W H t s x y) (cellY k W H t s x y), .int .i64 (cellE k W H t s x y)]) w) :=
  vivariumref06_Cell.calls 5 k W H t s x y _ _ _ w (Cell_f 0 k W H t s x y t0)
theorem refRing_calls (k W H t s x y : Int) (w : World) (t0 : 0 ≤ t) :
    Calls Try.prog 17 #[topoV k W H t s, pt x y] w (Ret (.tuple #[pt (ringX k W H t s x y) (ringY k W H t s x y), .bool (ringB k W H t s x y), .int .i64 (ringE k W H t s x y)]) w) :=
  vivariumref06_Ring.calls 6 k W H t s x y _ _ _ _ w (Ring_f 0 k W H t s x y t0)
theorem refCheck_calls (k W H t s : Int) (w : World) (t0 : 0 ≤ t) :
    Calls Try.prog 31 #[topoV k W H t s] w (Ret (.int .i64 (checkE k W H t s)) w) :=
  vivariumref04_Check.calls 5 k W H t s _ w (Check_f 0 k W H t s t0)
theorem refRefused_calls (k W H t s x y : Int) (w : World) (t0 : 0 ≤ t) :
    Calls Try.prog 38 #[topoV k W H t s, pt x y] w (Ret (.int .i64 (if checkE k W H t s ≠ 0 then 9 else if (nearI x && nearI y) = false then 5 else 0)) w) :=
  vivariumref06_refused.calls 5 k W H t s x y _ w (refused_f 0 k W H t s x y t0)
theorem refGlued_calls (k W H t s : Int) (w : World) : Calls Try.prog 32 #[topoV k W H t s] w (Ret (.bool (gluedI k)) w) :=
  vivariumref06_Glued.calls k W H t s _ w (Glued_f k W H t s)

end Go.Proofs.Ytfdehecekghlmaa.PFoldRing
