/- The walk of the law TopGlued. -/
import Derived.Test.YtfdehecekghlmaaTopN
import Derived.Test.YtfdehecekghlmaaLawKit
set_option linter.unusedVariables false
set_option linter.unusedSimpArgs false
namespace Go.Proofs.Ytfdehecekghlmaa
open Go.RowKit Go.Viv Go.Proofs.Ytfdehecekghlmaa.PFoldRing
attribute [local go_sem] run_store_complex run_store_float

set_option maxRecDepth 20000 in
set_option maxHeartbeats 2000000 in
theorem Top_no1 (k W H t s x y : Int) (ad : Option Addr) (n c : Nat) (w : World) (t0 : 0 ≤ t) (h : checkE k W H t s ≠ 0) : Calls Try.prog 9 #[topoV k W H t s, pt x y, .slice ad n c] w (Ret (.bool true) w) := by
  have c1 := fun w => refCheck_calls k W H t s w t0
  obtain ⟨E, hE⟩ : ∃ E, checkE k W H t s = E := ⟨_, rfl⟩
  rw [hE] at c1 h
  have hne : (E != 0) = true := by simpa using h
  have C1 := Lib.hid c1; clear c1 h hE
  have K1 : ((w.alloc (.cells #[.int .u8 k, .int .i64 W, .int .i64 H, .int .u8 t, .int .i64 s] 23)).alloc (.cells #[.int .i64 x, .int .i64 y] 25)).heap[w.heap.size]? = some (.cells #[.int .u8 k, .int .i64 W, .int .i64 H, .int .u8 t, .int .i64 s] 23 (0, 0)) := (bk_alloc (bk_new _ _) _)
  have K2 : ((w.alloc (.cells #[.int .u8 k, .int .i64 W, .int .i64 H, .int .u8 t, .int .i64 s] 23)).alloc (.cells #[.int .i64 x, .int .i64 y] 25)).heap[w.heap.size + 1]? = some (.cells #[.int .i64 x, .int .i64 y] 25 (0, 0)) := (by have := bk_new (w.alloc (.cells #[.int .u8 k, .int .i64 W, .int .i64 H, .int .u8 t, .int .i64 s] 23)) (.cells #[.int .i64 x, .int .i64 y] 25); simpa only [World.size_alloc] using this)
  have hBw : Below w.heap.size w ((w.alloc (.cells #[.int .u8 k, .int .i64 W, .int .i64 H, .int .u8 t, .int .i64 s] 23)).alloc (.cells #[.int .i64 x, .int .i64 y] 25)) := (boxed _ _).alloc (by simp) _
  go_enter Try.func9, Try.ntmps9
  go_wp2_with (first | fail)
  generalize hW0 : ((w.alloc (.cells #[.int .u8 k, .int .i64 W, .int .i64 H, .int .u8 t, .int .i64 s] 23)).alloc (.cells #[.int .i64 x, .int .i64 y] 25)) = W0 at *
  clear hW0
  have hB := same W0
  have K10 := K1
  have K20 := K2
  refine (glues_calls _).mono ?_
  rintro e w1 ⟨rfl, hb1⟩
  replace hB := next hB hb1; replace K1 := bk_below K1 hb1; have hcK1 := bk_cell K1; have hfK1 := bk_free K1; have hlK1 := bk_lt K1; replace K2 := bk_below K2 hb1; have hcK2 := bk_cell K2; have hfK2 := bk_free K2; have hlK2 := bk_lt K2
  go_wp2_with (first | fail)
  refine (C1.out _).mono ?_
  rintro e w2 ⟨rfl, hb1⟩
  replace hB := next hB hb1; replace K1 := bk_below K1 hb1; have hcK1 := bk_cell K1; have hfK1 := bk_free K1; have hlK1 := bk_lt K1; replace K2 := bk_below K2 hb1; have hcK2 := bk_cell K2; have hfK2 := bk_free K2; have hlK2 := bk_lt K2
  go_wp2
  go_ret
  exact Ret.of rfl (by repeat (with_reducible (first | exact hBw.trans (hB.mono hBw.size) | refine Below.setCell ?_ (by have h1_ := hBw.size; have h2_ := hB.size; (try simp) <;> omega) _ | refine Below.drew ?_ | refine Below.alloc ?_ (by have h1_ := hBw.size; have h2_ := hB.size; (try simp) <;> omega) _)))

set_option maxRecDepth 20000 in
set_option maxHeartbeats 2000000 in
theorem Top_no2 (k W H t s x y : Int) (ad : Option Addr) (n c : Nat) (w : World) (t0 : 0 ≤ t) (h : checkE k W H t s = 0) (hg : gluedI k = false) : Calls Try.prog 9 #[topoV k W H t s, pt x y, .slice ad n c] w (Ret (.bool true) w) := by
  have c1 := fun w => refCheck_calls k W H t s w t0
  have c2 := fun w => refGlued_calls k W H t s w
  rw [h] at c1; rw [hg] at c2
  have C1 := Lib.hid c1; have C2 := Lib.hid c2; clear c1 c2 h hg
  have K1 : ((w.alloc (.cells #[.int .u8 k, .int .i64 W, .int .i64 H, .int .u8 t, .int .i64 s] 23)).alloc (.cells #[.int .i64 x, .int .i64 y] 25)).heap[w.heap.size]? = some (.cells #[.int .u8 k, .int .i64 W, .int .i64 H, .int .u8 t, .int .i64 s] 23 (0, 0)) := (bk_alloc (bk_new _ _) _)
  have K2 : ((w.alloc (.cells #[.int .u8 k, .int .i64 W, .int .i64 H, .int .u8 t, .int .i64 s] 23)).alloc (.cells #[.int .i64 x, .int .i64 y] 25)).heap[w.heap.size + 1]? = some (.cells #[.int .i64 x, .int .i64 y] 25 (0, 0)) := (by have := bk_new (w.alloc (.cells #[.int .u8 k, .int .i64 W, .int .i64 H, .int .u8 t, .int .i64 s] 23)) (.cells #[.int .i64 x, .int .i64 y] 25); simpa only [World.size_alloc] using this)
  have hBw : Below w.heap.size w ((w.alloc (.cells #[.int .u8 k, .int .i64 W, .int .i64 H, .int .u8 t, .int .i64 s] 23)).alloc (.cells #[.int .i64 x, .int .i64 y] 25)) := (boxed _ _).alloc (by simp) _
  go_enter Try.func9, Try.ntmps9
  go_wp2_with (first | fail)
  generalize hW0 : ((w.alloc (.cells #[.int .u8 k, .int .i64 W, .int .i64 H, .int .u8 t, .int .i64 s] 23)).alloc (.cells #[.int .i64 x, .int .i64 y] 25)) = W0 at *
  clear hW0
  have hB := same W0
  have K10 := K1
  have K20 := K2
  refine (glues_calls _).mono ?_
  rintro e w1 ⟨rfl, hb1⟩
  replace hB := next hB hb1; replace K1 := bk_below K1 hb1; have hcK1 := bk_cell K1; have hfK1 := bk_free K1; have hlK1 := bk_lt K1; replace K2 := bk_below K2 hb1; have hcK2 := bk_cell K2; have hfK2 := bk_free K2; have hlK2 := bk_lt K2
  go_wp2_with (first | fail)
  refine (C1.out _).mono ?_
  rintro e w2 ⟨rfl, hb1⟩
  replace hB := next hB hb1; replace K1 := bk_below K1 hb1; have hcK1 := bk_cell K1; have hfK1 := bk_free K1; have hlK1 := bk_lt K1; replace K2 := bk_below K2 hb1; have hcK2 := bk_cell K2; have hfK2 := bk_free K2; have hlK2 := bk_lt K2
  go_wp2_with (first | fail)
  refine (C2.out _).mono ?_
  rintro e w3 ⟨rfl, hb1⟩
  replace hB := next hB hb1; replace K1 := bk_below K1 hb1; have hcK1 := bk_cell K1; have hfK1 := bk_free K1; have hlK1 := bk_lt K1; replace K2 := bk_below K2 hb1; have hcK2 := bk_cell K2; have hfK2 := bk_free K2; have hlK2 := bk_lt K2
  go_wp2
  go_ret
  exact Ret.of rfl (by repeat (with_reducible (first | exact hBw.trans (hB.mono hBw.size) | refine Below.setCell ?_ (by have h1_ := hBw.size; have h2_ := hB.size; (try simp) <;> omega) _ | refine Below.drew ?_ | refine Below.alloc ?_ (by have h1_ := hBw.size; have h2_ := hB.size; (try simp) <;> omega) _)))

set_option maxRecDepth 20000 in
set_option maxHeartbeats 2000000 in
theorem Top_no3 (k W H t s x y : Int) (ad : Option Addr) (n c : Nat) (w : World) (t0 : 0 ≤ t) (h : checkE k W H t s = 0) (hg : gluedI k = true) (hn : tnear x y = false) : Calls Try.prog 9 #[topoV k W H t s, pt x y, .slice ad n c] w (Ret (.bool true) w) := by
  have c1 := fun w => refCheck_calls k W H t s w t0
  have c2 := fun w => refGlued_calls k W H t s w
  have c3 := fun w => tnear_calls x y w
  rw [h] at c1; rw [hg] at c2; rw [hn] at c3
  have C1 := Lib.hid c1; have C2 := Lib.hid c2; have C3 := Lib.hid c3; clear c1 c2 c3 h hg hn
  have K1 : ((w.alloc (.cells #[.int .u8 k, .int .i64 W, .int .i64 H, .int .u8 t, .int .i64 s] 23)).alloc (.cells #[.int .i64 x, .int .i64 y] 25)).heap[w.heap.size]? = some (.cells #[.int .u8 k, .int .i64 W, .int .i64 H, .int .u8 t, .int .i64 s] 23 (0, 0)) := (bk_alloc (bk_new _ _) _)
  have K2 : ((w.alloc (.cells #[.int .u8 k, .int .i64 W, .int .i64 H, .int .u8 t, .int .i64 s] 23)).alloc (.cells #[.int .i64 x, .int .i64 y] 25)).heap[w.heap.size + 1]? = some (.cells #[.int .i64 x, .int .i64 y] 25 (0, 0)) := (by have := bk_new (w.alloc (.cells #[.int .u8 k, .int .i64 W, .int .i64 H, .int .u8 t, .int .i64 s] 23)) (.cells #[.int .i64 x, .int .i64 y] 25); simpa only [World.size_alloc] using this)
  have hBw : Below w.heap.size w ((w.alloc (.cells #[.int .u8 k, .int .i64 W, .int .i64 H, .int .u8 t, .int .i64 s] 23)).alloc (.cells #[.int .i64 x, .int .i64 y] 25)) := (boxed _ _).alloc (by simp) _
  go_enter Try.func9, Try.ntmps9
  go_wp2_with (first | fail)
  generalize hW0 : ((w.alloc (.cells #[.int .u8 k, .int .i64 W, .int .i64 H, .int .u8 t, .int .i64 s] 23)).alloc (.cells #[.int .i64 x, .int .i64 y] 25)) = W0 at *
  clear hW0
  have hB := same W0
  have K10 := K1
  have K20 := K2
  refine (glues_calls _).mono ?_
  rintro e w1 ⟨rfl, hb1⟩
  replace hB := next hB hb1; replace K1 := bk_below K1 hb1; have hcK1 := bk_cell K1; have hfK1 := bk_free K1; have hlK1 := bk_lt K1; replace K2 := bk_below K2 hb1; have hcK2 := bk_cell K2; have hfK2 := bk_free K2; have hlK2 := bk_lt K2
  go_wp2_with (first | fail)
  refine (C1.out _).mono ?_
  rintro e w2 ⟨rfl, hb1⟩
  replace hB := next hB hb1; replace K1 := bk_below K1 hb1; have hcK1 := bk_cell K1; have hfK1 := bk_free K1; have hlK1 := bk_lt K1; replace K2 := bk_below K2 hb1; have hcK2 := bk_cell K2; have hfK2 := bk_free K2; have hlK2 := bk_lt K2
  go_wp2_with (first | fail)
  refine (C2.out _).mono ?_
  rintro e w3 ⟨rfl, hb1⟩
  replace hB := next hB hb1; replace K1 := bk_below K1 hb1; have hcK1 := bk_cell K1; have hfK1 := bk_free K1; have hlK1 := bk_lt K1; replace K2 := bk_below K2 hb1; have hcK2 := bk_cell K2; have hfK2 := bk_free K2; have hlK2 := bk_lt K2
  go_wp2_with (first | fail)
  refine (C3.out _).mono ?_
  rintro e w4 ⟨rfl, hb1⟩
  replace hB := next hB hb1; replace K1 := bk_below K1 hb1; have hcK1 := bk_cell K1; have hfK1 := bk_free K1; have hlK1 := bk_lt K1; replace K2 := bk_below K2 hb1; have hcK2 := bk_cell K2; have hfK2 := bk_free K2; have hlK2 := bk_lt K2
  go_wp2
  go_ret
  exact Ret.of rfl (by repeat (with_reducible (first | exact hBw.trans (hB.mono hBw.size) | refine Below.setCell ?_ (by have h1_ := hBw.size; have h2_ := hB.size; (try simp) <;> omega) _ | refine Below.drew ?_ | refine Below.alloc ?_ (by have h1_ := hBw.size; have h2_ := hB.size; (try simp) <;> omega) _)))

theorem next9 {w w1 w2 : World} (h : Below w.heap.size w w1) (h2 : Below w1.heap.size w1 w2) : Below w.heap.size w w2 := next h h2
theorem tmod_2 (x : Int) : -1 ≤ x.tmod 2 ∧ x.tmod 2 ≤ 1 := by
  have := tmod_bounds x 2 (by decide); omega
theorem tnear_near {x y : Int} (h : tnear x y = true) : nearI x = true ∧ nearI y = true := by
  unfold tnear at h; simp at h
  exact ⟨nearI_iff.2 (by omega), nearI_iff.2 (by omega)⟩

/-- whatever a step may take: a gluing map, or one taken back: it comes as floats of whole numbers -/
def AtOk (L : List Mv) : Prop := ∀ m ∈ L, nearI m.x = true ∧ nearI m.y = true ∧ nearI (bckM m).x = true ∧ nearI (bckM m).y = true ∧ (m.k = 0 ∨ m.k = 2)
theorem glue_at {k W H t s : Int} (h : TopoOk k W H t s) : AtOk (glueL k W H t s) := by
  intro m hm
  have hf := glue_form hm
  have hk := glue_k m hm
  have hb : m.x.natAbs ≤ 300000 ∧ m.y.natAbs ≤ 300000 := by
    have w0 := h.w0; have w1 := h.w1; have h0 := h.h0; have h1 := h.h1
    obtain ⟨s1, s2⟩ := h.sh
    obtain ⟨f1, f2⟩ := first_b w0 w1
    obtain ⟨f3, f4⟩ := first_b h0 h1
    unfold glueL at hm
    split at hm
    · simp at hm
    · simp only [List.mem_append] at hm
      rcases hm with hm | hm
      · split at hm
        · simp at hm; subst hm; unfold glueX; split <;> dsimp only <;> (try split) <;> omega
        · simp at hm
      · split at hm
        · simp at hm; subst hm; unfold glueY; split <;> dsimp only <;> (try split) <;> omega
        · simp at hm
  have lb := lin_bounds (k := backK m.k m.f) (f := m.f) (x := m.x) (y := m.y) (B := 300000) hb.1 hb.2
  refine ⟨nearI_iff.2 (by omega), nearI_iff.2 (by omega), ?_, ?_, hk⟩
  · show nearI (-(linX (backK m.k m.f) m.f m.x m.y)) = true
    exact nearI_iff.2 (by omega)
  · show nearI (-(linY (backK m.k m.f) m.f m.x m.y)) = true
    exact nearI_iff.2 (by omega)


end Go.Proofs.Ytfdehecekghlmaa
