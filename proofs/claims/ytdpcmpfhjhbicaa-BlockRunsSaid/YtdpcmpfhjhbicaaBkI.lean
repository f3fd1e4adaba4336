/- The blocks of a generation: they have no cell in common. -/
import Derived.Test.YtdpcmpfhjhbicaaBkH
set_option linter.unusedVariables false
set_option linter.unusedSimpArgs false
namespace Go.Proofs.Ytdpcmpfhjhbicaa
open Go.RowKit Go.Viv

theorem mod_inj {a b W : Int} (hW : 0 < W) (h : a % W = b % W) (h1 : a - b < W) (h2 : b - a < W) : a = b := by
  have e1 := Int.mul_ediv_add_emod a W
  have e2 := Int.mul_ediv_add_emod b W
  have e : a - b = W * (a / W - b / W) := by rw [Int.mul_sub]; omega
  generalize a / W - b / W = q at e
  rcases Int.lt_trichotomy q 0 with hq | hq | hq
  · have := Int.mul_le_mul_of_nonneg_left (show q ≤ -1 by omega) (Int.le_of_lt hW)
    omega
  · subst hq; simp at e; omega
  · have := Int.mul_le_mul_of_nonneg_left (show 1 ≤ q by omega) (Int.le_of_lt hW)
    omega

section
variable {k W H t s : Int}
structure EvenOk (k W H t s : Int) (wn hn : Nat) : Prop where
  g : GridOk k W H t s
  t0 : 0 ≤ t
  w : W = 2 * (wn : Int)
  h : H = 2 * (hn : Int)
theorem EvenOk.pos {wn hn : Nat} (h : EvenOk k W H t s wn hn) : 0 < W ∧ W ≤ 65536 ∧ 0 < H ∧ H ≤ 65536 := by
  have ok := topoOk_of h.t0 h.g.ok
  have := ok.w0; have := ok.w1; have := ok.h0; have := ok.h1; have := h.g.w0; have := h.g.h0
  omega
theorem bpx_bd (hW : 0 < W) (u v : Int) : 0 ≤ bpx k W H t s u v ∧ bpx k W H t s u v < W := by
  unfold bpx; split <;> exact ⟨Int.emod_nonneg _ (by omega), Int.emod_lt_of_pos _ hW⟩
theorem bpy_bd (hH : 0 < H) (u v : Int) : 0 ≤ bpy k W H t s u v ∧ bpy k W H t s u v < H := by
  unfold bpy; split <;> exact ⟨Int.emod_nonneg _ (by omega), Int.emod_lt_of_pos _ hH⟩
theorem bpl_inj (hW : 0 < W) (hH : 0 < H) {odd u v u' v' : Int} (a1 : odd ≤ u) (a2 : u < odd + W) (a3 : odd ≤ u') (a4 : u' < odd + W) (b1 : odd ≤ v) (b2 : v < odd + H) (b3 : odd ≤ v') (b4 : v' < odd + H)
    (h : bpl k W H t s u v = bpl k W H t s u' v') : u = u' ∧ v = v' := by
  have x1 := bpx_bd (k := k) (t := t) (s := s) (H := H) hW u v; have x2 := bpx_bd (k := k) (t := t) (s := s) (H := H) hW u' v'
  have y1 := bpy_bd (k := k) (t := t) (s := s) (W := W) hH u v; have y2 := bpy_bd (k := k) (t := t) (s := s) (W := W) hH u' v'
  unfold bpl at h
  have hx : bpx k W H t s u v = bpx k W H t s u' v' := by have := congrArg Prod.fst h; simp at this; omega
  have hy : bpy k W H t s u v = bpy k W H t s u' v' := by have := congrArg Prod.snd h; simp at this; omega
  clear x1 x2 y1 y2 h
  unfold bpx at hx
  unfold bpy at hy
  by_cases c1 : k = 2 ∧ t = 1
  · have c2 : ¬ (k = 2 ∧ t = 2) := by omega
    rw [if_pos c1, if_pos c1] at hx
    rw [if_neg c2, if_neg c2] at hy
    have ev := mod_inj hH hy (by omega) (by omega)
    subst ev
    have := mod_inj hW hx (by omega) (by omega)
    exact ⟨by omega, rfl⟩
  · rw [if_neg c1, if_neg c1] at hx
    have eu := mod_inj hW hx (by omega) (by omega)
    subst eu
    refine ⟨rfl, ?_⟩
    by_cases c2 : k = 2 ∧ t = 2
    · rw [if_pos c2, if_pos c2] at hy
      have := mod_inj hH hy (by omega) (by omega)
      omega
    · rw [if_neg c2, if_neg c2] at hy
      exact mod_inj hH hy (by omega) (by omega)

theorem blk_mem {u v : Int} {p : Cl} : p ∈ (blkOf k W H t s u v).cells ↔ ∃ i j : Int, (i = 0 ∨ i = 1) ∧ (j = 0 ∨ j = 1) ∧ p = bpl k W H t s (u + i) (v + j) := by
  simp only [blkOf, Blk.cells, List.mem_cons, List.not_mem_nil, or_false]
  constructor
  · rintro (h | h | h | h)
    · exact ⟨0, 0, .inl rfl, .inl rfl, by simpa using h⟩
    · exact ⟨1, 0, .inr rfl, .inl rfl, by simpa using h⟩
    · exact ⟨0, 1, .inl rfl, .inr rfl, by simpa using h⟩
    · exact ⟨1, 1, .inr rfl, .inr rfl, h⟩
  · rintro ⟨i, j, rfl | rfl, rfl | rfl, h⟩
    · exact .inl (by simpa using h)
    · exact .inr (.inr (.inl (by simpa using h)))
    · exact .inr (.inl (by simpa using h))
    · exact .inr (.inr (.inr h))
/-- where a block of the list stands -/
theorem blkL_mem {wn hn : Nat} (hw : W = 2 * (wn : Int)) (hh : H = 2 * (hn : Int)) {odd : Int} {B : Blk} (h : B ∈ blkL k W H t s odd) : ∃ i j : Nat, i < hn ∧ j < wn ∧ blkIn k W H (odd + 2 * j) (odd + 2 * i) = true ∧ B = blkOf k W H t s (odd + 2 * j) (odd + 2 * i) := by
  unfold blkL blkTo at h
  obtain ⟨i, hi, h⟩ := List.mem_flatMap.1 h
  unfold blkRow at h
  obtain ⟨j, hj, h⟩ := List.mem_filterMap.1 h
  rw [List.mem_range] at hi hj
  cases hb : blkIn k W H (odd + 2 * j) (odd + 2 * i)
  · rw [hb] at h; simp at h
  · rw [hb] at h
    simp at h
    exact ⟨i, j, by omega, by omega, hb, h.symm⟩
theorem four_of (hW : 0 < W) (hH : 0 < H) {odd u v : Int} (a1 : odd ≤ u) (a2 : u + 1 < odd + W) (b1 : odd ≤ v) (b2 : v + 1 < odd + H) : (blkOf k W H t s u v).Four := by
  have inj := fun (i j i' j' : Int) (h1 : i = 0 ∨ i = 1) (h2 : j = 0 ∨ j = 1) (h3 : i' = 0 ∨ i' = 1) (h4 : j' = 0 ∨ j' = 1) (h : bpl k W H t s (u + i) (v + j) = bpl k W H t s (u + i') (v + j')) =>
    bpl_inj (odd := odd) hW hH (by omega) (by omega) (by omega) (by omega) (by omega) (by omega) (by omega) (by omega) h
  simp only [Blk.Four, Blk.cells, blkOf, List.nodup_cons, List.mem_cons, List.not_mem_nil, or_false, not_or, List.nodup_nil, not_false_eq_true, and_true]
  have q := fun (i j i' j' : Int) h1 h2 h3 h4 (hne : ¬ (i = i' ∧ j = j')) (h : bpl k W H t s (u + i) (v + j) = bpl k W H t s (u + i') (v + j')) => hne (by have := inj i j i' j' h1 h2 h3 h4 h; omega)
  have e0 : u = u + 0 := by omega
  have f0 : v = v + 0 := by omega
  refine ⟨⟨fun h => q 0 0 1 0 (by omega) (by omega) (by omega) (by omega) (by omega) (by simpa using h), fun h => q 0 0 0 1 (by omega) (by omega) (by omega) (by omega) (by omega) (by simpa using h), fun h => q 0 0 1 1 (by omega) (by omega) (by omega) (by omega) (by omega) (by simpa using h)⟩,
    ⟨fun h => q 1 0 0 1 (by omega) (by omega) (by omega) (by omega) (by omega) (by simpa using h), fun h => q 1 0 1 1 (by omega) (by omega) (by omega) (by omega) (by omega) (by simpa using h)⟩, fun h => q 0 1 1 1 (by omega) (by omega) (by omega) (by omega) (by omega) (by simpa using h)⟩
theorem apart_of (hW : 0 < W) (hH : 0 < H) {odd : Int} {j i j' i' : Nat} (a1 : odd + 2 * j + 1 < odd + W) (b1 : odd + 2 * i + 1 < odd + H) (a2 : odd + 2 * j' + 1 < odd + W) (b2 : odd + 2 * i' + 1 < odd + H) (hne : ¬ (i = i' ∧ j = j')) :
    Apart (blkOf k W H t s (odd + 2 * j) (odd + 2 * i)) (blkOf k W H t s (odd + 2 * j') (odd + 2 * i')) := by
  intro p h1 h2
  obtain ⟨x, y, hx, hy, rfl⟩ := blk_mem.1 h1
  obtain ⟨x', y', hx', hy', h⟩ := blk_mem.1 h2
  have := bpl_inj (odd := odd) hW hH (by omega) (by omega) (by omega) (by omega) (by omega) (by omega) (by omega) (by omega) h
  omega
theorem good_L {wn hn : Nat} (hW : 0 < W) (hH : 0 < H) (hw : W = 2 * (wn : Int)) (hh : H = 2 * (hn : Int)) (odd : Int) : GoodL (blkL k W H t s odd) := by
  refine ⟨?_, fun B hB => ?_⟩
  · unfold blkL blkTo
    rw [List.pairwise_flatMap]
    refine ⟨fun i hi => ?_, ?_⟩
    · unfold blkRow
      rw [List.pairwise_filterMap]
      refine List.Pairwise.imp_of_mem ?_ (List.pairwise_lt_range)
      intro a b ha hb hab B hB C hC
      rw [List.mem_range] at ha hb hi
      cases h1 : blkIn k W H (odd + 2 * a) (odd + 2 * i) <;> rw [h1] at hB <;> simp at hB
      cases h2 : blkIn k W H (odd + 2 * b) (odd + 2 * i) <;> rw [h2] at hC <;> simp at hC
      subst hB; subst hC
      exact apart_of hW hH (by omega) (by omega) (by omega) (by omega) (by omega)
    · refine List.Pairwise.imp_of_mem ?_ (List.pairwise_lt_range)
      intro a b ha hb hab B hB C hC
      rw [List.mem_range] at ha hb
      unfold blkRow at hB hC
      obtain ⟨j, hj, hB⟩ := List.mem_filterMap.1 hB
      obtain ⟨j', hj', hC⟩ := List.mem_filterMap.1 hC
      rw [List.mem_range] at hj hj'
      cases h1 : blkIn k W H (odd + 2 * j) (odd + 2 * a) <;> rw [h1] at hB <;> simp at hB
      cases h2 : blkIn k W H (odd + 2 * j') (odd + 2 * b) <;> rw [h2] at hC <;> simp at hC
      subst hB; subst hC
      exact apart_of hW hH (by omega) (by omega) (by omega) (by omega) (by omega)
  · obtain ⟨i, j, hi, hj, _, rfl⟩ := blkL_mem hw hh hB
    exact four_of (odd := odd) hW hH (by omega) (by omega) (by omega) (by omega)
theorem cells_bd {wn hn : Nat} (hW : 0 < W) (hH : 0 < H) (hw : W = 2 * (wn : Int)) (hh : H = 2 * (hn : Int)) {odd : Int} {B : Blk} (hB : B ∈ blkL k W H t s odd) : ∀ p ∈ B.cells, (p.1 : Int) < W ∧ (p.2 : Int) < H := by
  obtain ⟨i, j, _, _, _, rfl⟩ := blkL_mem hw hh hB
  intro p hp
  obtain ⟨x, y, _, _, rfl⟩ := blk_mem.1 hp
  have h1 := bpx_bd (k := k) (t := t) (s := s) (H := H) hW (odd + 2 * j + x) (odd + 2 * i + y)
  have h2 := bpy_bd (k := k) (t := t) (s := s) (W := W) hH (odd + 2 * j + x) (odd + 2 * i + y)
  simp only [bpl]
  omega

/-- a place's cell -/
theorem cel_ok (g : GridOk k W H t s) (t0 : 0 ≤ t) {u v : Int} (hu : 0 ≤ u ∧ u ≤ W) (hv : 0 ≤ v ∧ v ≤ H) : celB k W H t s u v = decide (k = 2 ∨ (u < W ∧ v < H)) ∧ ((k = 2 ∨ (u < W ∧ v < H)) → celX k W H t s u v = bpx k W H t s u v ∧ celY k W H t s u v = bpy k W H t s u v) := by
  have ok := topoOk_of t0 g.ok
  have w0 := ok.w0; have w1 := ok.w1; have h0 := ok.h0; have h1 := ok.h1; have gw := g.w0; have gh := g.h0; have gc := g.ok; have gk := g.k1
  have hn : (nearI (u - W / 2) && nearI (v - H / 2)) = true := by unfold nearI; simp; omega
  have e1 : u - W / 2 - first W = u := by unfold first; omega
  have e2 : v - H / 2 - first H = v := by unfold first; omega
  rcases gk with rfl | rfl
  · have hg : gluedI 1 = false := by decide
    have hE : cellE 1 W H t s (u - W / 2) (v - H / 2) = if (u < W ∧ v < H) then 0 else 60 := by
      unfold cellE
      rw [if_neg (by omega), hn, if_neg (by simp), hg, if_neg (by simp), e1, e2]
      by_cases c : u < W ∧ v < H
      · rw [if_pos c, if_pos]
        unfold onI; simp; omega
      · rw [if_neg c, if_neg]
        unfold onI; simp; omega
    refine ⟨?_, fun c => ?_⟩
    · unfold celB
      rw [hE]
      by_cases c : u < W ∧ v < H
      · rw [if_pos c, decide_eq_true (.inr c)]; rfl
      · rw [if_neg c, decide_eq_false (by omega)]; rfl
    · have c' : u < W ∧ v < H := by omega
      rw [if_pos c'] at hE
      have m1 := Int.emod_eq_of_lt hu.1 c'.1
      have m2 := Int.emod_eq_of_lt hv.1 c'.2
      constructor
      · simp only [celX, cellX, hE, hg, bpx, ne_eq, not_true, if_false, Bool.false_eq_true]
        rw [if_neg (by omega)]; omega
      · simp only [celY, cellY, hE, hg, bpy, ne_eq, not_true, if_false, Bool.false_eq_true]
        rw [if_neg (by omega)]; omega
  · have hg : gluedI 2 = true := by decide
    have hE : cellE 2 W H t s (u - W / 2) (v - H / 2) = 0 := by
      unfold cellE
      rw [if_neg (by omega), hn, if_neg (by simp), hg, if_pos rfl]
    refine ⟨?_, fun _ => ?_⟩
    · unfold celB
      rw [hE, decide_eq_true (.inl rfl)]; rfl
    · have n3 : ¬ ((2 : Int) = 3 ∧ t = 1 ∧ v / H % 2 = 1) := by omega
      have n4 : ¬ ((2 : Int) = 4 ∧ v / H % 2 = 1) := by omega
      have n5 : ¬ ((2 : Int) = 3 ∧ t = 2 ∧ u / W % 2 = 1) := by omega
      have n6 : ¬ ((2 : Int) = 4 ∧ u / W % 2 = 1) := by omega
      have hU : cellU 2 W H t s u v = bpx 2 W H t s u v := by unfold cellU bpx; rw [if_neg n3, if_neg n4]
      have hV : cellV 2 W H t s u v = bpy 2 W H t s u v := by unfold cellV bpy; rw [if_neg n5, if_neg n6]
      constructor
      · simp only [celX, cellX, hE, hg, ne_eq, not_true, if_false, if_true, e1, e2, hU]
        unfold first; omega
      · simp only [celY, cellY, hE, hg, ne_eq, not_true, if_false, if_true, e1, e2, hV]
        unfold first; omega

def ptV (p : Cl) : List Value := [.int .i64 (p.1 : Int), .int .i64 (p.2 : Int)]
def cellsV (B : Blk) : List Value := ptV B.a ++ ptV B.b ++ ptV B.c ++ ptV B.d
theorem ok4 (g : GridOk k W H t s) (t0 : 0 ≤ t) {u v : Int} (hu : 0 ≤ u ∧ u < W) (hv : 0 ≤ v ∧ v < H) : okTo k W H t s u v 4 = blkIn k W H u v ∧ (blkIn k W H u v = true → (blkA k W H t s u v).toList = cellsV (blkOf k W H t s u v)) := by
  have a := cel_ok g t0 (u := u) (v := v) (by omega) (by omega)
  have b := cel_ok g t0 (u := u + 1) (v := v) (by omega) (by omega)
  have c := cel_ok g t0 (u := u) (v := v + 1) (by omega) (by omega)
  have d := cel_ok g t0 (u := u + 1) (v := v + 1) (by omega) (by omega)
  have ok := topoOk_of t0 g.ok
  have w0 := ok.w0; have h0 := ok.h0; have gw := g.w0; have gh := g.h0
  refine ⟨?_, fun hin => ?_⟩
  · have e : okTo k W H t s u v 4 = (celB k W H t s u v && celB k W H t s (u + 1) v && celB k W H t s u (v + 1) && celB k W H t s (u + 1) (v + 1)) := by simp [okTo]
    rw [e, a.1, b.1, c.1, d.1, Bool.eq_iff_iff]
    unfold blkIn
    simp only [Bool.and_eq_true, decide_eq_true_eq]
    omega
  · unfold blkIn at hin
    simp only [decide_eq_true_eq] at hin
    have a2 := a.2 (by omega); have b2 := b.2 (by omega); have c2 := c.2 (by omega); have d2 := d.2 (by omega)
    have x := fun u v => bpx_bd (k := k) (t := t) (s := s) (H := H) (show 0 < W by omega) u v
    have y := fun u v => bpy_bd (k := k) (t := t) (s := s) (W := W) (show 0 < H by omega) u v
    simp only [blkA, a2.1, a2.2, b2.1, b2.2, c2.1, c2.2, d2.1, d2.2, cellsV, ptV, blkOf, bpl, List.cons_append, List.nil_append]
    rw [Int.toNat_of_nonneg (x _ _).1, Int.toNat_of_nonneg (y _ _).1, Int.toNat_of_nonneg (x _ _).1, Int.toNat_of_nonneg (y _ _).1, Int.toNat_of_nonneg (x _ _).1, Int.toNat_of_nonneg (y _ _).1, Int.toNat_of_nonneg (x _ _).1, Int.toNat_of_nonneg (y _ _).1]
theorem row_eq {wn hn : Nat} (h : EvenOk k W H t s wn hn) {odd : Int} (o0 : 0 ≤ odd) (o1 : odd ≤ 1) (i : Nat) (hi : i < hn) : ∀ j, j ≤ wn → rowV k W H t s odd (odd + 2 * i) j = (blkRow k W H t s odd (odd + 2 * i) j).flatMap cellsV := by
  intro j
  have hw := h.w; have hh := h.h
  induction j with
  | zero => intro _; rfl
  | succ j ih =>
    intro hj
    rw [rowV_succ, blkRow_succ, List.flatMap_append, ih (by omega)]
    congr 1
    obtain ⟨e1, e2⟩ := ok4 h.g h.t0 (u := odd + 2 * j) (v := odd + 2 * i) (by omega) (by omega)
    rw [e1]
    cases hb : blkIn k W H (odd + 2 * j) (odd + 2 * i)
    · simp
    · simp [e2 hb]
theorem to_eq {wn hn : Nat} (h : EvenOk k W H t s wn hn) {odd : Int} (o0 : 0 ≤ odd) (o1 : odd ≤ 1) : toV k W H t s odd wn hn = (blkL k W H t s odd).flatMap cellsV := by
  have hw := h.w; have hh := h.h
  have key : ∀ i, i ≤ hn → toV k W H t s odd wn i = (blkTo k W H t s odd i).flatMap cellsV := by
    intro i
    induction i with
    | zero => intro _; rfl
    | succ i ih =>
      intro hi
      rw [toV_succ, blkTo_succ, List.flatMap_append, ih (by omega), row_eq h o0 o1 i (by omega) wn (Nat.le_refl _), show W.toNat / 2 = wn by omega]
  rw [key hn (Nat.le_refl _), blkL, show H.toNat / 2 = hn by omega]
end
end Go.Proofs.Ytdpcmpfhjhbicaa
