/- ring: Around. -/
import Derived.Test.YtkldffpdlkmncaaHdB
import Derived.Test.YtkldffpdlkmncaaRgB
import Derived.Test.YtkldffpdlkmncaaFG
set_option linter.unusedVariables false
set_option linter.unusedSimpArgs false
namespace Go.Proofs.Ytkldffpdlkmncaa
open Go.RowKit Go.Viv

theorem rd_make0 {P : Program} {t e : TypeId} {z : Value} {size bytes : Nat} (ht : P.underlying t = some (.slice e)) (hinfo : (P.info? e).map (fun i => (i.zero, i.size, i.bytes)) = some (some z, size, bytes)) (n : Nat) (hb : bytes * n ≤ 281474976710656) (hn : n ≤ 9223372036854775807) (w : World) :
    (Instr.makeSlice t (.int .i64 0) (.int .i64 (n : Int))).run P w = .ok (.slice (some ⟨w.heap.size, 0, none⟩) 0 n) (w.alloc (.cells (madeCells z.cells (n * size)) e)) := by
  obtain ⟨i, hi, hz, hs1, hb1⟩ := info_parts hinfo
  have hb2 : ((bytes * n : Nat) : Int) ≤ 281474976710656 := by omega
  rw [Int.natCast_mul] at hb2
  have := run_make (P := P) w t e i z ht hi hz .i64 .i64 (0 : Int) (n : Int) (by omega) (by omega) (by rw [hb1]; exact hb2) (by omega)
  simpa [hs1] using this
theorem own_made0 (w : World) (base : Nat) (e : TypeId) (z : Value) (n : Nat) (hb : base ≤ w.heap.size) (hn : n ≤ maxLen) (hz : (madeCells z.cells n).size = n) : (w.alloc (.cells (madeCells z.cells n) e)).ownsRow base e 1 (.slice (some ⟨w.heap.size, 0, none⟩) 0 n) 0 [] :=
  ⟨rfl, .inr ⟨_, _, _, rfl, hb, bk_new _ _, Nat.zero_le _, hn, by rw [hz]; omega, by simp⟩⟩
theorem ptsV_at : ∀ {l : List (Int × Int)} {j : Nat} {a b : Int}, l[j]? = some (a, b) → (ptsV l)[j * 2]? = some (.int .i64 a) ∧ (ptsV l)[j * 2 + 1]? = some (.int .i64 b)
  | [], _, _, _, h => by simp at h
  | p :: l, 0, a, b, h => by
    obtain rfl : p = (a, b) := by simpa using h
    exact ⟨rfl, rfl⟩
  | p :: l, j + 1, a, b, h => by
    have ih := ptsV_at (l := l) (j := j) (a := a) (b := b) (by simpa using h)
    have e : ptsV (p :: l) = .int .i64 p.1 :: .int .i64 p.2 :: ptsV l := rfl
    rw [e, show (j + 1) * 2 = j * 2 + 1 + 1 by omega]
    simpa using ih
theorem hd_bd : ∀ j, (-1 ≤ hdX j ∧ hdX j ≤ 1) ∧ (-1 ≤ hdY j ∧ hdY j ≤ 1)
  | 0 => by decide | 1 => by decide | 2 => by decide | 3 => by decide | 4 => by decide | 5 => by decide | 6 => by decide
  | n + 7 => by show (-1 ≤ (-1 : Int) ∧ (-1 : Int) ≤ 1) ∧ (-1 ≤ (-1 : Int) ∧ (-1 : Int) ≤ 1); decide
theorem hdL_bd {k : Int} {j : Nat} {p : Int × Int} (h : p ∈ hdL k j) : (-1 ≤ p.1 ∧ p.1 ≤ 1) ∧ (-1 ≤ p.2 ∧ p.2 ≤ 1) := by
  unfold hdL at h
  obtain ⟨i, _, hi⟩ := List.mem_filterMap.1 h
  split at hi
  · obtain rfl := Option.some.inj hi
    exact hd_bd i
  · cases hi
theorem hdL_pos {k : Int} (hk : hdE k = 0) : 0 < (hdL k 8).length := by
  unfold hdE at hk
  have : k = 1 ∨ k = 2 ∨ k = 3 := by
    by_cases h : k = 1 ∨ k = 2 ∨ k = 3
    · exact h
    · rw [if_neg h] at hk; cases hk
  rcases this with rfl | rfl | rfl <;> decide

/-- where a neighbour stands in a frame -/
def arI (W x y : Int) (p : Int × Int) : Int := (y + p.2 + 1) * (W + 2) + x + p.1 + 1
def arE (W H : Int) (n : Nat) (k x y : Int) : Int := if rgChE W H n ≠ 0 then rgChE W H n else if hdE k ≠ 0 then 70 else if x < 0 ∨ W ≤ x ∨ y < 0 ∨ H ≤ y then 130 else 0
def arL (cells : List Int) (W x y k : Int) : List Int := (hdL k 8).map fun p => cells.getD (arI W x y p).toNat 0
theorem arI_bd {W H x y : Int} {p : Int × Int} (hp : (-1 ≤ p.1 ∧ p.1 ≤ 1) ∧ (-1 ≤ p.2 ∧ p.2 ≤ 1)) (x0 : 0 ≤ x) (x1 : x < W) (y0 : 0 ≤ y) (y1 : y < H) : 0 ≤ arI W x y p ∧ arI W x y p < (W + 2) * (H + 2) := by
  unfold arI
  have m1 : (0 : Int) ≤ (y + p.2 + 1) * (W + 2) := Int.mul_nonneg (by omega) (by omega)
  have m2 : (y + p.2 + 1) * (W + 2) ≤ (H + 1) * (W + 2) := Int.mul_le_mul_of_nonneg_right (by omega) (by omega)
  have m3 : (W + 2) * (H + 2) = (H + 1) * (W + 2) + (W + 2) := by rw [Int.mul_comm (W + 2), show H + 2 = H + 1 + 1 by omega, Int.add_mul (H + 1) 1, Int.one_mul]
  omega
/-- what Around comes to -/
def AroundP (cells : List Int) (W k x y : Int) (w : World) (e : Ending) (w' : World) : Prop :=
  ∃ v, e = .returned (.tuple #[v, .int .i64 0]) ∧ w'.ownsRow w.heap.size 5 1 v (hdL k 8).length ((arL cells W x y k).map (.int .u8)) ∧ Below w.heap.size w w'

set_option maxRecDepth 20000 in
set_option maxHeartbeats 4000000 in
theorem rgAround_no {W H k x y : Int} {A : Option Addr} {n c : Nat} (hE : arE W H n k x y ≠ 0) (w : World) :
    Calls Try.prog 16 #[.agg #[.int .i64 W, .int .i64 H, .slice A n c], .int .u8 k, .int .i64 x, .int .i64 y] w (Ret (.tuple #[.slice none 0 0, .int .i64 (arE W H n k x y)]) w) := by
  obtain ⟨E, hEE⟩ : ∃ E, rgChE W H n = E := ⟨_, rfl⟩
  obtain ⟨D, hDD⟩ : ∃ D, hdE k = D := ⟨_, rfl⟩
  have hAR : Hid (arE W H n k x y = if E ≠ 0 then E else if D ≠ 0 then 70 else if x < 0 ∨ W ≤ x ∨ y < 0 ∨ H ≤ y then 130 else 0) := by show _ = _; unfold arE; rw [hEE, hDD]
  have hNE := Lib.hid hE
  have cc := fun w => rgCheck_calls W H A n c w
  rw [hEE] at cc
  have ch : D ≠ 0 → ∀ w, Calls Try.prog 48 #[.int .u8 k] w (Ret (.tuple #[.slice none 0 0, .int .i64 D]) w) := fun h w => by
    have := hdOff_no (k := k) (by rw [hDD]; exact h) w
    rwa [hDD] at this
  have cy : D = 0 → ∀ w, Calls Try.prog 48 #[.int .u8 k] w (HdOffP k w) := fun h w => hdOff_yes (k := k) (by rw [hDD]; exact h) w
  have CC := Lib.hid cc; have CH := Lib.hid ch; have CY := Lib.hid cy
  clear cc ch cy
  have KF := Lib.hid (bk_new w (.cells #[.int .i64 W, .int .i64 H, .slice A n c] 34))
  have kf := bk_cell KF.out
  have hB := Lib.hid (boxed w (.cells #[.int .i64 W, .int .i64 H, .slice A n c] 34))
  clear hE hEE hDD
  by_cases h1 : E = 0
  rotate_left
  · have h1' : (E != 0) = true := bne_iff_ne.2 h1
    have H1 := Lib.hid h1
    clear h1
    go_enter Try.func16, Try.ntmps16
    go_wp2_with (first | (go_at_call 15; ((with_reducible refine (CC.out _).mono ?_); rintro e w1 ⟨rfl, hb1⟩)))
    go_ret2
    exact Ret.of (by rw [hAR.out, if_pos H1.out]; rfl) (next hB.out hb1)
  subst h1
  by_cases h2 : D = 0
  rotate_left
  · have h2' : (D != 0) = true := bne_iff_ne.2 h2
    have H2 := Lib.hid h2
    clear h2
    go_enter Try.func16, Try.ntmps16
    go_wp2_with (first | (go_at_call 15; ((with_reducible refine (CC.out _).mono ?_); rintro e w1 ⟨rfl, hb1⟩)) | (go_at_call 48; ((with_reducible refine (CH.out H2.out _).mono ?_); rintro e w2 ⟨rfl, hb2⟩)))
    go_ret2
    exact Ret.of (by rw [hAR.out, if_neg (by simp), if_pos H2.out]; rfl) (next (next hB.out hb1) hb2)
  subst h2
  have CY2 : Hid (∀ w, Calls Try.prog 48 #[.int .u8 k] w (HdOffP k w)) := CY.out rfl
  clear CY CH
  have h3 : x < 0 ∨ (¬ x < 0 ∧ W ≤ x) ∨ (¬ x < 0 ∧ ¬ W ≤ x ∧ y < 0) ∨ (¬ x < 0 ∧ ¬ W ≤ x ∧ ¬ y < 0 ∧ H ≤ y) := by
    have := hNE.out
    rw [hAR.out, if_neg (by simp), if_neg (by simp)] at this
    have : x < 0 ∨ W ≤ x ∨ y < 0 ∨ H ≤ y := by
      by_cases h : x < 0 ∨ W ≤ x ∨ y < 0 ∨ H ≤ y
      · exact h
      · rw [if_neg h] at this; exact absurd rfl this
    omega
  have HA : Hid (arE W H n k x y = 130) := by
    show _ = _
    rw [hAR.out, if_neg (by simp), if_neg (by simp), if_pos (by omega)]
  rcases h3 with h3 | ⟨h3, h4⟩ | ⟨h3, h4, h5⟩ | ⟨h3, h4, h5, h6⟩
  all_goals
    go_enter Try.func16, Try.ntmps16
    go_wp2_with (first | (go_at_call 15; ((with_reducible refine (CC.out _).mono ?_); rintro e w1 ⟨rfl, hb1⟩; have kf1 := bk_cell (bk_below KF.out hb1))) | (go_at_call 48; ((with_reducible refine (CY2.out _).mono ?_); rintro e w2 ⟨v, rfl, hown, hb2⟩; have kf2 := bk_cell (bk_below (bk_below KF.out hb1) hb2))))
    go_ret2
    exact Ret.of (by rw [HA.out]; rfl) (next (next hB.out hb1) hb2)
end Go.Proofs.Ytkldffpdlkmncaa
