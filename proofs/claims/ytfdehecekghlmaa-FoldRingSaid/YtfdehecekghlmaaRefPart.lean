/- The walk of the document's linear part (vivariumref06.Part). -/
import Derived.Test.YtfdehecekghlmaaGlueC
import Derived.Test.YtfdehecekghlmaaRef5
set_option linter.unusedVariables false
set_option linter.unusedSimpArgs false
namespace Go.Proofs.Ytfdehecekghlmaa
open Go.RowKit Go.Viv Go.Proofs.Ytfdehecekghlmaa.PFoldRing
attribute [local go_sem] run_store_complex run_store_float

theorem refTile_calls (u W : Int) (w : World) (h0 : 0 ≤ W) (h3 : W ≤ 65536) (h1 : -4611686018427387904 ≤ u) (h2 : u ≤ 4611686018427387904) : Calls Try.prog 47 #[.int .i64 u, .int .i64 W] w (Ret (.int .i64 (u / W)) w) :=
  (vivariumref06_tile.calls _ _ _ w (tile_f u W h0 h3 h1 h2)).mono fun _ _ h => ⟨h.1, h.2.below⟩
theorem refOdd_calls (i : Int) (w : World) : Calls Try.prog 46 #[.int .i64 i] w (Ret (.bool (i % 2 == 1)) w) :=
  (vivariumref06_odd.calls _ _ w (odd_f i)).mono fun _ _ h => ⟨h.1, h.2.below⟩

def HeldTP (W0 : World) (b bp : Nat) (W H x y : Int) (w' : World) : Prop :=
  w'.cell? ⟨b, 1, none⟩ = some (.int .i64 W) ∧ w'.cell? ⟨b, 2, none⟩ = some (.int .i64 H) ∧ w'.cell? ⟨bp, 0, none⟩ = some (.int .i64 x) ∧ w'.cell? ⟨bp, 1, none⟩ = some (.int .i64 y) ∧ Below W0.heap.size W0 w'
theorem keepTP {W0 w' : World} {b bp tt tp : Nat} {k t W H s x y : Int} (hk : W0.heap[b]? = some (.cells #[.int .u8 k, .int .i64 W, .int .i64 H, .int .u8 t, .int .i64 s] tt (0, 0))) (hp : W0.heap[bp]? = some (.cells #[.int .i64 x, .int .i64 y] tp (0, 0))) (hB : Below W0.heap.size W0 w') : HeldTP W0 b bp W H x y w' := by
  have h1 := bk_below hk hB
  have h2 := bk_below hp hB
  exact ⟨(bk_cell h1 1).trans rfl, (bk_cell h1 2).trans rfl, (bk_cell h2 0).trans rfl, (bk_cell h2 1).trans rfl, hB⟩
theorem keepTPn {W0 w' w2 : World} {b bp tt tp : Nat} {k t W H s x y : Int} (hk : W0.heap[b]? = some (.cells #[.int .u8 k, .int .i64 W, .int .i64 H, .int .u8 t, .int .i64 s] tt (0, 0))) (hp : W0.heap[bp]? = some (.cells #[.int .i64 x, .int .i64 y] tp (0, 0))) (h : HeldTP W0 b bp W H x y w') (h2 : Below w'.heap.size w' w2) : HeldTP W0 b bp W H x y w2 := keepTP hk hp (next h.2.2.2.2 h2)

set_option maxHeartbeats 1000000 in
theorem rPart_e (k W H t s x y : Int) (w : World) (t0 : 0 ≤ t) (he : cellE k W H t s x y ≠ 0) :
    Calls Try.prog 15 #[topoV k W H t s, pt x y] w (Ret (.tuple #[.int .i64 0, .int .i64 (cellE k W H t s x y)]) w) := by
  have hrc := refCell_calls k W H t s x y
  obtain ⟨E, hE⟩ : ∃ E, cellE k W H t s x y = E := ⟨_, rfl⟩
  rw [hE] at he hrc ⊢
  have hne : (E != 0) = true := by simpa using he
  have HR := Lib.hid hrc
  clear hE he hrc
  have K1 : ((w.alloc (.cells #[.int .u8 k, .int .i64 W, .int .i64 H, .int .u8 t, .int .i64 s] 23)).alloc (.cells #[.int .i64 x, .int .i64 y] 25)).heap[w.heap.size]? = some (.cells #[.int .u8 k, .int .i64 W, .int .i64 H, .int .u8 t, .int .i64 s] 23 (0, 0)) := (bk_alloc (bk_new _ _) _)
  have K2 : ((w.alloc (.cells #[.int .u8 k, .int .i64 W, .int .i64 H, .int .u8 t, .int .i64 s] 23)).alloc (.cells #[.int .i64 x, .int .i64 y] 25)).heap[w.heap.size + 1]? = some (.cells #[.int .i64 x, .int .i64 y] 25 (0, 0)) := (by have := bk_new (w.alloc (.cells #[.int .u8 k, .int .i64 W, .int .i64 H, .int .u8 t, .int .i64 s] 23)) (.cells #[.int .i64 x, .int .i64 y] 25); simpa only [World.size_alloc] using this)
  have hBw : Below w.heap.size w ((w.alloc (.cells #[.int .u8 k, .int .i64 W, .int .i64 H, .int .u8 t, .int .i64 s] 23)).alloc (.cells #[.int .i64 x, .int .i64 y] 25)) := (boxed _ _).alloc (by simp) _
  go_enter Try.func15, Try.ntmps15
  go_wp2_with (first | fail)
  generalize hW0 : ((w.alloc (.cells #[.int .u8 k, .int .i64 W, .int .i64 H, .int .u8 t, .int .i64 s] 23)).alloc (.cells #[.int .i64 x, .int .i64 y] 25)) = W0 at *
  clear hW0
  have hB := same W0
  have K10 := K1
  have K20 := K2
  refine (HR.out _ t0).mono ?_
  rintro e w1 ⟨rfl, hb1⟩
  replace hB := next hB hb1; replace K1 := bk_below K1 hb1; have hcK1 := bk_cell K1; have hfK1 := bk_free K1; have hlK1 := bk_lt K1; replace K2 := bk_below K2 hb1; have hcK2 := bk_cell K2; have hfK2 := bk_free K2; have hlK2 := bk_lt K2
  go_wp2
  go_ret2
  exact Ret.of rfl (by repeat (with_reducible (first | exact hBw.trans (hB.mono hBw.size) | refine Below.setCell ?_ (by have h1_ := hBw.size; have h2_ := hB.size; (try simp) <;> omega) _ | refine Below.drew ?_ | refine Below.alloc ?_ (by have h1_ := hBw.size; have h2_ := hB.size; (try simp) <;> omega) _)))

set_option maxHeartbeats 4000000 in
theorem rPart_1t (t : Int) (W H s x y : Int) (w : World) (t0 : 0 ≤ t) (h : checkE 1 W H t s = 0) (hx0 : nearI x = true) (hy0 : nearI y = true) (he : cellE 1 W H t s x y = 0) :
    Calls Try.prog 15 #[topoV 1 W H t s, pt x y] w (Ret (.tuple #[.int .i64 0, .int .i64 0]) w) := by
  have h0 := topoOk t0 h
  have hrc := refCell_calls 1 W H t s x y
  rw [he] at hrc
  have HR := Lib.hid hrc
  have w0 := h0.w0; have w1_ := h0.w1; have h0_ := h0.h0; have h1_ := h0.h1
  obtain ⟨f1, f2⟩ := first_bounds W w0 w1_
  obtain ⟨f3, f4⟩ := first_bounds H h0_ h1_
  obtain ⟨x1, x2⟩ := nearI_iff.1 hx0
  obtain ⟨y1, y2⟩ := nearI_iff.1 hy0
  have hwy : Hid (IntKind.i64.wrap (y - first H) = y - first H) := by show _ = _; rw [IntKind.wrap_i64]; omega
  have hwx : Hid (IntKind.i64.wrap (x - first W) = x - first W) := by show _ = _; rw [IntKind.wrap_i64]; omega
  clear h0 he hrc h hx0 hy0
  have K1 : ((w.alloc (.cells #[.int .u8 1, .int .i64 W, .int .i64 H, .int .u8 t, .int .i64 s] 23)).alloc (.cells #[.int .i64 x, .int .i64 y] 25)).heap[w.heap.size]? = some (.cells #[.int .u8 1, .int .i64 W, .int .i64 H, .int .u8 t, .int .i64 s] 23 (0, 0)) := (bk_alloc (bk_new _ _) _)
  have K2 : ((w.alloc (.cells #[.int .u8 1, .int .i64 W, .int .i64 H, .int .u8 t, .int .i64 s] 23)).alloc (.cells #[.int .i64 x, .int .i64 y] 25)).heap[w.heap.size + 1]? = some (.cells #[.int .i64 x, .int .i64 y] 25 (0, 0)) := (by have := bk_new (w.alloc (.cells #[.int .u8 1, .int .i64 W, .int .i64 H, .int .u8 t, .int .i64 s] 23)) (.cells #[.int .i64 x, .int .i64 y] 25); simpa only [World.size_alloc] using this)
  have hBw : Below w.heap.size w ((w.alloc (.cells #[.int .u8 1, .int .i64 W, .int .i64 H, .int .u8 t, .int .i64 s] 23)).alloc (.cells #[.int .i64 x, .int .i64 y] 25)) := (boxed _ _).alloc (by simp) _
  go_enter Try.func15, Try.ntmps15
  go_wp2_with (first | fail)
  generalize hW0 : ((w.alloc (.cells #[.int .u8 1, .int .i64 W, .int .i64 H, .int .u8 t, .int .i64 s] 23)).alloc (.cells #[.int .i64 x, .int .i64 y] 25)) = W0 at *
  clear hW0
  have hB := same W0
  have K10 := K1
  have K20 := K2
  refine (HR.out _ t0).mono ?_
  rintro e w1 ⟨rfl, hb1⟩
  replace hB := next hB hb1; replace K1 := bk_below K1 hb1; have hcK1 := bk_cell K1; have hfK1 := bk_free K1; have hlK1 := bk_lt K1; replace K2 := bk_below K2 hb1; have hcK2 := bk_cell K2; have hfK2 := bk_free K2; have hlK2 := bk_lt K2
  go_wp2_with (first | (go_at_call 48; ((with_reducible refine (Which5_a _).mono ?_); rintro e w8 ⟨rfl, hb1⟩)) | fail)
  go_ret2
  exact Ret.of rfl (hBw.trans (Below.mono (next hB (box (box hb1))) hBw.size))

set_option maxHeartbeats 4000000 in
theorem rPart_2t (t : Int) (W H s x y : Int) (w : World) (t0 : 0 ≤ t) (h : checkE 2 W H t s = 0) (hx0 : nearI x = true) (hy0 : nearI y = true) (he : cellE 2 W H t s x y = 0) :
    Calls Try.prog 15 #[topoV 2 W H t s, pt x y] w (Ret (.tuple #[.int .i64 0, .int .i64 0]) w) := by
  have h0 := topoOk t0 h
  have hrc := refCell_calls 2 W H t s x y
  rw [he] at hrc
  have HR := Lib.hid hrc
  have w0 := h0.w0; have w1_ := h0.w1; have h0_ := h0.h0; have h1_ := h0.h1
  obtain ⟨f1, f2⟩ := first_bounds W w0 w1_
  obtain ⟨f3, f4⟩ := first_bounds H h0_ h1_
  obtain ⟨x1, x2⟩ := nearI_iff.1 hx0
  obtain ⟨y1, y2⟩ := nearI_iff.1 hy0
  have hwy : Hid (IntKind.i64.wrap (y - first H) = y - first H) := by show _ = _; rw [IntKind.wrap_i64]; omega
  have hwx : Hid (IntKind.i64.wrap (x - first W) = x - first W) := by show _ = _; rw [IntKind.wrap_i64]; omega
  clear h0 he hrc h hx0 hy0
  have K1 : ((w.alloc (.cells #[.int .u8 2, .int .i64 W, .int .i64 H, .int .u8 t, .int .i64 s] 23)).alloc (.cells #[.int .i64 x, .int .i64 y] 25)).heap[w.heap.size]? = some (.cells #[.int .u8 2, .int .i64 W, .int .i64 H, .int .u8 t, .int .i64 s] 23 (0, 0)) := (bk_alloc (bk_new _ _) _)
  have K2 : ((w.alloc (.cells #[.int .u8 2, .int .i64 W, .int .i64 H, .int .u8 t, .int .i64 s] 23)).alloc (.cells #[.int .i64 x, .int .i64 y] 25)).heap[w.heap.size + 1]? = some (.cells #[.int .i64 x, .int .i64 y] 25 (0, 0)) := (by have := bk_new (w.alloc (.cells #[.int .u8 2, .int .i64 W, .int .i64 H, .int .u8 t, .int .i64 s] 23)) (.cells #[.int .i64 x, .int .i64 y] 25); simpa only [World.size_alloc] using this)
  have hBw : Below w.heap.size w ((w.alloc (.cells #[.int .u8 2, .int .i64 W, .int .i64 H, .int .u8 t, .int .i64 s] 23)).alloc (.cells #[.int .i64 x, .int .i64 y] 25)) := (boxed _ _).alloc (by simp) _
  go_enter Try.func15, Try.ntmps15
  go_wp2_with (first | fail)
  generalize hW0 : ((w.alloc (.cells #[.int .u8 2, .int .i64 W, .int .i64 H, .int .u8 t, .int .i64 s] 23)).alloc (.cells #[.int .i64 x, .int .i64 y] 25)) = W0 at *
  clear hW0
  have hB := same W0
  have K10 := K1
  have K20 := K2
  refine (HR.out _ t0).mono ?_
  rintro e w1 ⟨rfl, hb1⟩
  replace hB := next hB hb1; replace K1 := bk_below K1 hb1; have hcK1 := bk_cell K1; have hfK1 := bk_free K1; have hlK1 := bk_lt K1; replace K2 := bk_below K2 hb1; have hcK2 := bk_cell K2; have hfK2 := bk_free K2; have hlK2 := bk_lt K2
  go_wp2_with (first | (go_at_call 48; ((with_reducible refine (Which5_a _).mono ?_); rintro e w8 ⟨rfl, hb1⟩)) | fail)
  go_ret2
  exact Ret.of rfl (hBw.trans (Below.mono (next hB (box (box hb1))) hBw.size))

set_option maxHeartbeats 4000000 in
theorem rPart_5t (t : Int) (W H s x y : Int) (w : World) (t0 : 0 ≤ t) (h : checkE 5 W H t s = 0) (hx0 : nearI x = true) (hy0 : nearI y = true) (he : cellE 5 W H t s x y = 0) :
    Calls Try.prog 15 #[topoV 5 W H t s, pt x y] w (Ret (.tuple #[.int .i64 0, .int .i64 0]) w) := by
  have h0 := topoOk t0 h
  have hrc := refCell_calls 5 W H t s x y
  rw [he] at hrc
  have HR := Lib.hid hrc
  have w0 := h0.w0; have w1_ := h0.w1; have h0_ := h0.h0; have h1_ := h0.h1
  obtain ⟨f1, f2⟩ := first_bounds W w0 w1_
  obtain ⟨f3, f4⟩ := first_bounds H h0_ h1_
  obtain ⟨x1, x2⟩ := nearI_iff.1 hx0
  obtain ⟨y1, y2⟩ := nearI_iff.1 hy0
  have hwy : Hid (IntKind.i64.wrap (y - first H) = y - first H) := by show _ = _; rw [IntKind.wrap_i64]; omega
  have hwx : Hid (IntKind.i64.wrap (x - first W) = x - first W) := by show _ = _; rw [IntKind.wrap_i64]; omega
  clear h0 he hrc h hx0 hy0
  have K1 : ((w.alloc (.cells #[.int .u8 5, .int .i64 W, .int .i64 H, .int .u8 t, .int .i64 s] 23)).alloc (.cells #[.int .i64 x, .int .i64 y] 25)).heap[w.heap.size]? = some (.cells #[.int .u8 5, .int .i64 W, .int .i64 H, .int .u8 t, .int .i64 s] 23 (0, 0)) := (bk_alloc (bk_new _ _) _)
  have K2 : ((w.alloc (.cells #[.int .u8 5, .int .i64 W, .int .i64 H, .int .u8 t, .int .i64 s] 23)).alloc (.cells #[.int .i64 x, .int .i64 y] 25)).heap[w.heap.size + 1]? = some (.cells #[.int .i64 x, .int .i64 y] 25 (0, 0)) := (by have := bk_new (w.alloc (.cells #[.int .u8 5, .int .i64 W, .int .i64 H, .int .u8 t, .int .i64 s] 23)) (.cells #[.int .i64 x, .int .i64 y] 25); simpa only [World.size_alloc] using this)
  have hBw : Below w.heap.size w ((w.alloc (.cells #[.int .u8 5, .int .i64 W, .int .i64 H, .int .u8 t, .int .i64 s] 23)).alloc (.cells #[.int .i64 x, .int .i64 y] 25)) := (boxed _ _).alloc (by simp) _
  go_enter Try.func15, Try.ntmps15
  go_wp2_with (first | fail)
  generalize hW0 : ((w.alloc (.cells #[.int .u8 5, .int .i64 W, .int .i64 H, .int .u8 t, .int .i64 s] 23)).alloc (.cells #[.int .i64 x, .int .i64 y] 25)) = W0 at *
  clear hW0
  have hB := same W0
  have K10 := K1
  have K20 := K2
  refine (HR.out _ t0).mono ?_
  rintro e w1 ⟨rfl, hb1⟩
  replace hB := next hB hb1; replace K1 := bk_below K1 hb1; have hcK1 := bk_cell K1; have hfK1 := bk_free K1; have hlK1 := bk_lt K1; replace K2 := bk_below K2 hb1; have hcK2 := bk_cell K2; have hfK2 := bk_free K2; have hlK2 := bk_lt K2
  go_wp2_with (first | (go_at_call 48; ((with_reducible refine (Which5_a _).mono ?_); rintro e w8 ⟨rfl, hb1⟩)) | fail)
  go_ret2
  exact Ret.of rfl (hBw.trans (Below.mono (next hB (box (box hb1))) hBw.size))

set_option maxHeartbeats 4000000 in
theorem rPart_31a1 (W H s x y : Int) (w : World) (h : checkE 3 W H 1 s = 0) (hx0 : nearI x = true) (hy0 : nearI y = true) (he : cellE 3 W H 1 s x y = 0) (ha : ((y - first H) / H % 2 == 1) = true) :
    Calls Try.prog 15 #[topoV 3 W H 1 s, pt x y] w (Ret (.tuple #[.int .i64 6, .int .i64 0]) w) := by
  have h0 := topoOk (by decide) h
  have hrc := refCell_calls 3 W H 1 s x y
  rw [he] at hrc
  have HR := Lib.hid hrc
  have w0 := h0.w0; have w1_ := h0.w1; have h0_ := h0.h0; have h1_ := h0.h1
  obtain ⟨f1, f2⟩ := first_bounds W w0 w1_
  obtain ⟨f3, f4⟩ := first_bounds H h0_ h1_
  obtain ⟨x1, x2⟩ := nearI_iff.1 hx0
  obtain ⟨y1, y2⟩ := nearI_iff.1 hy0
  have hwy : Hid (IntKind.i64.wrap (y - first H) = y - first H) := by show _ = _; rw [IntKind.wrap_i64]; omega
  have hwx : Hid (IntKind.i64.wrap (x - first W) = x - first W) := by show _ = _; rw [IntKind.wrap_i64]; omega
  clear h0 he hrc h hx0 hy0
  have hpa := Lib.hid ha; clear ha
  have K1 : ((w.alloc (.cells #[.int .u8 3, .int .i64 W, .int .i64 H, .int .u8 1, .int .i64 s] 23)).alloc (.cells #[.int .i64 x, .int .i64 y] 25)).heap[w.heap.size]? = some (.cells #[.int .u8 3, .int .i64 W, .int .i64 H, .int .u8 1, .int .i64 s] 23 (0, 0)) := (bk_alloc (bk_new _ _) _)
  have K2 : ((w.alloc (.cells #[.int .u8 3, .int .i64 W, .int .i64 H, .int .u8 1, .int .i64 s] 23)).alloc (.cells #[.int .i64 x, .int .i64 y] 25)).heap[w.heap.size + 1]? = some (.cells #[.int .i64 x, .int .i64 y] 25 (0, 0)) := (by have := bk_new (w.alloc (.cells #[.int .u8 3, .int .i64 W, .int .i64 H, .int .u8 1, .int .i64 s] 23)) (.cells #[.int .i64 x, .int .i64 y] 25); simpa only [World.size_alloc] using this)
  have hBw : Below w.heap.size w ((w.alloc (.cells #[.int .u8 3, .int .i64 W, .int .i64 H, .int .u8 1, .int .i64 s] 23)).alloc (.cells #[.int .i64 x, .int .i64 y] 25)) := (boxed _ _).alloc (by simp) _
  go_enter Try.func15, Try.ntmps15
  go_wp2_with (first | fail)
  generalize hW0 : ((w.alloc (.cells #[.int .u8 3, .int .i64 W, .int .i64 H, .int .u8 1, .int .i64 s] 23)).alloc (.cells #[.int .i64 x, .int .i64 y] 25)) = W0 at *
  clear hW0
  have hB := same W0
  have K10 := K1
  have K20 := K2
  refine (HR.out _ (by decide)).mono ?_
  rintro e w1 ⟨rfl, hb1⟩
  replace hB := next hB hb1; replace K1 := bk_below K1 hb1; have hcK1 := bk_cell K1; have hfK1 := bk_free K1; have hlK1 := bk_lt K1; replace K2 := bk_below K2 hb1; have hcK2 := bk_cell K2; have hfK2 := bk_free K2; have hlK2 := bk_lt K2
  go_wp2_with (first | (go_at_call 48; ((with_reducible refine (Which5_c _).mono ?_); rintro e w8 ⟨rfl, hb1⟩)) | fail)
  replace hB := next hB (boxed w1 (.cells #[.int .i64 (cellX 3 W H 1 s x y), .int .i64 (cellY 3 W H 1 s x y)] 25))
  replace K1 := bk_alloc K1 (.cells #[.int .i64 (cellX 3 W H 1 s x y), .int .i64 (cellY 3 W H 1 s x y)] 25)
  replace K2 := bk_alloc K2 (.cells #[.int .i64 (cellX 3 W H 1 s x y), .int .i64 (cellY 3 W H 1 s x y)] 25)
  generalize hwr0 : w1.alloc (.cells #[.int .i64 (cellX 3 W H 1 s x y), .int .i64 (cellY 3 W H 1 s x y)] 25) = wr0 at *
  clear hwr0
  have hc1 := bk_cell K1; have hl1 := bk_lt K1; have hc2 := bk_cell K2; have hl2 := bk_lt K2
  have K1S0 := K1; have K2S0 := K2; have hBS0 := same wr0
  go_region_held3 (fun w' => w'.cell? ⟨w.heap.size, 1, none⟩ = some (.int .i64 W) ∧ w'.cell? ⟨w.heap.size, 2, none⟩ = some (.int .i64 H) ∧ w'.cell? ⟨w.heap.size + 1, 0, none⟩ = some (.int .i64 x) ∧ w'.cell? ⟨w.heap.size + 1, 1, none⟩ = some (.int .i64 y) ∧ Below wr0.heap.size wr0 w')
    (first | exact keepTP K1S0 K2S0 (Below.drew hBS0) | exact keepTPn K1S0 K2S0 (by assumption) hb1)
    (first | (go_at_call 40; ((with_reducible refine (first_same _ _ h0_ h1_).mono ?_); rintro e w4 ⟨rfl, rfl⟩)) | (go_at_call 47; rw [hwy.out]; ((with_reducible refine (refTile_calls _ _ _ h0_ h1_ (by omega) (by omega)).mono ?_); rintro e wt0 ⟨rfl, hb1⟩)) | (go_at_call 46; ((with_reducible refine (refOdd_calls _ _).mono ?_); rintro e wo0 ⟨rfl, hb1⟩; rw [hpa.out])))
  rename_i hH
  replace hB := next hB hH.2.2.2.2
  replace K1 := bk_below K1 hH.2.2.2.2; replace K2 := bk_below K2 hH.2.2.2.2
  have hc1 := bk_cell K1; have hl1 := bk_lt K1; have hc2 := bk_cell K2; have hl2 := bk_lt K2
  clear hH
  go_wp2_with (first | (go_at_call 48; ((with_reducible refine (Which5_c _).mono ?_); rintro e w8 ⟨rfl, hb1⟩)) | fail)
  go_ret2
  exact Ret.of rfl (hBw.trans (Below.mono (next hB (box hb1)) hBw.size))

set_option maxHeartbeats 4000000 in
theorem rPart_31a0 (W H s x y : Int) (w : World) (h : checkE 3 W H 1 s = 0) (hx0 : nearI x = true) (hy0 : nearI y = true) (he : cellE 3 W H 1 s x y = 0) (ha : ((y - first H) / H % 2 == 1) = false) :
    Calls Try.prog 15 #[topoV 3 W H 1 s, pt x y] w (Ret (.tuple #[.int .i64 0, .int .i64 0]) w) := by
  have h0 := topoOk (by decide) h
  have hrc := refCell_calls 3 W H 1 s x y
  rw [he] at hrc
  have HR := Lib.hid hrc
  have w0 := h0.w0; have w1_ := h0.w1; have h0_ := h0.h0; have h1_ := h0.h1
  obtain ⟨f1, f2⟩ := first_bounds W w0 w1_
  obtain ⟨f3, f4⟩ := first_bounds H h0_ h1_
  obtain ⟨x1, x2⟩ := nearI_iff.1 hx0
  obtain ⟨y1, y2⟩ := nearI_iff.1 hy0
  have hwy : Hid (IntKind.i64.wrap (y - first H) = y - first H) := by show _ = _; rw [IntKind.wrap_i64]; omega
  have hwx : Hid (IntKind.i64.wrap (x - first W) = x - first W) := by show _ = _; rw [IntKind.wrap_i64]; omega
  clear h0 he hrc h hx0 hy0
  have hpa := Lib.hid ha; clear ha
  have K1 : ((w.alloc (.cells #[.int .u8 3, .int .i64 W, .int .i64 H, .int .u8 1, .int .i64 s] 23)).alloc (.cells #[.int .i64 x, .int .i64 y] 25)).heap[w.heap.size]? = some (.cells #[.int .u8 3, .int .i64 W, .int .i64 H, .int .u8 1, .int .i64 s] 23 (0, 0)) := (bk_alloc (bk_new _ _) _)
  have K2 : ((w.alloc (.cells #[.int .u8 3, .int .i64 W, .int .i64 H, .int .u8 1, .int .i64 s] 23)).alloc (.cells #[.int .i64 x, .int .i64 y] 25)).heap[w.heap.size + 1]? = some (.cells #[.int .i64 x, .int .i64 y] 25 (0, 0)) := (by have := bk_new (w.alloc (.cells #[.int .u8 3, .int .i64 W, .int .i64 H, .int .u8 1, .int .i64 s] 23)) (.cells #[.int .i64 x, .int .i64 y] 25); simpa only [World.size_alloc] using this)
  have hBw : Below w.heap.size w ((w.alloc (.cells #[.int .u8 3, .int .i64 W, .int .i64 H, .int .u8 1, .int .i64 s] 23)).alloc (.cells #[.int .i64 x, .int .i64 y] 25)) := (boxed _ _).alloc (by simp) _
  go_enter Try.func15, Try.ntmps15
  go_wp2_with (first | fail)
  generalize hW0 : ((w.alloc (.cells #[.int .u8 3, .int .i64 W, .int .i64 H, .int .u8 1, .int .i64 s] 23)).alloc (.cells #[.int .i64 x, .int .i64 y] 25)) = W0 at *
  clear hW0
  have hB := same W0
  have K10 := K1
  have K20 := K2
  refine (HR.out _ (by decide)).mono ?_
  rintro e w1 ⟨rfl, hb1⟩
  replace hB := next hB hb1; replace K1 := bk_below K1 hb1; have hcK1 := bk_cell K1; have hfK1 := bk_free K1; have hlK1 := bk_lt K1; replace K2 := bk_below K2 hb1; have hcK2 := bk_cell K2; have hfK2 := bk_free K2; have hlK2 := bk_lt K2
  go_wp2_with (first | (go_at_call 48; ((with_reducible refine (Which5_a _).mono ?_); rintro e w8 ⟨rfl, hb1⟩)) | fail)
  replace hB := next hB (boxed w1 (.cells #[.int .i64 (cellX 3 W H 1 s x y), .int .i64 (cellY 3 W H 1 s x y)] 25))
  replace K1 := bk_alloc K1 (.cells #[.int .i64 (cellX 3 W H 1 s x y), .int .i64 (cellY 3 W H 1 s x y)] 25)
  replace K2 := bk_alloc K2 (.cells #[.int .i64 (cellX 3 W H 1 s x y), .int .i64 (cellY 3 W H 1 s x y)] 25)
  generalize hwr0 : w1.alloc (.cells #[.int .i64 (cellX 3 W H 1 s x y), .int .i64 (cellY 3 W H 1 s x y)] 25) = wr0 at *
  clear hwr0
  have hc1 := bk_cell K1; have hl1 := bk_lt K1; have hc2 := bk_cell K2; have hl2 := bk_lt K2
  have K1S0 := K1; have K2S0 := K2; have hBS0 := same wr0
  go_region_held3 (fun w' => w'.cell? ⟨w.heap.size, 1, none⟩ = some (.int .i64 W) ∧ w'.cell? ⟨w.heap.size, 2, none⟩ = some (.int .i64 H) ∧ w'.cell? ⟨w.heap.size + 1, 0, none⟩ = some (.int .i64 x) ∧ w'.cell? ⟨w.heap.size + 1, 1, none⟩ = some (.int .i64 y) ∧ Below wr0.heap.size wr0 w')
    (first | exact keepTP K1S0 K2S0 (Below.drew hBS0) | exact keepTPn K1S0 K2S0 (by assumption) hb1)
    (first | (go_at_call 40; ((with_reducible refine (first_same _ _ h0_ h1_).mono ?_); rintro e w4 ⟨rfl, rfl⟩)) | (go_at_call 47; rw [hwy.out]; ((with_reducible refine (refTile_calls _ _ _ h0_ h1_ (by omega) (by omega)).mono ?_); rintro e wt0 ⟨rfl, hb1⟩)) | (go_at_call 46; ((with_reducible refine (refOdd_calls _ _).mono ?_); rintro e wo0 ⟨rfl, hb1⟩; rw [hpa.out])))
  rename_i hH
  replace hB := next hB hH.2.2.2.2
  replace K1 := bk_below K1 hH.2.2.2.2; replace K2 := bk_below K2 hH.2.2.2.2
  have hc1 := bk_cell K1; have hl1 := bk_lt K1; have hc2 := bk_cell K2; have hl2 := bk_lt K2
  clear hH
  go_wp2_with (first | (go_at_call 48; ((with_reducible refine (Which5_a _).mono ?_); rintro e w8 ⟨rfl, hb1⟩)) | fail)
  go_ret2
  exact Ret.of rfl (hBw.trans (Below.mono (next hB (box hb1)) hBw.size))

set_option maxHeartbeats 4000000 in
theorem rPart_32d1 (W H s x y : Int) (w : World) (h : checkE 3 W H 2 s = 0) (hx0 : nearI x = true) (hy0 : nearI y = true) (he : cellE 3 W H 2 s x y = 0) (hd : ((x - first W) / W % 2 == 1) = true) :
    Calls Try.prog 15 #[topoV 3 W H 2 s, pt x y] w (Ret (.tuple #[.int .i64 4, .int .i64 0]) w) := by
  have h0 := topoOk (by decide) h
  have hrc := refCell_calls 3 W H 2 s x y
  rw [he] at hrc
  have HR := Lib.hid hrc
  have w0 := h0.w0; have w1_ := h0.w1; have h0_ := h0.h0; have h1_ := h0.h1
  obtain ⟨f1, f2⟩ := first_bounds W w0 w1_
  obtain ⟨f3, f4⟩ := first_bounds H h0_ h1_
  obtain ⟨x1, x2⟩ := nearI_iff.1 hx0
  obtain ⟨y1, y2⟩ := nearI_iff.1 hy0
  have hwy : Hid (IntKind.i64.wrap (y - first H) = y - first H) := by show _ = _; rw [IntKind.wrap_i64]; omega
  have hwx : Hid (IntKind.i64.wrap (x - first W) = x - first W) := by show _ = _; rw [IntKind.wrap_i64]; omega
  clear h0 he hrc h hx0 hy0
  have hpd := Lib.hid hd; clear hd
  have K1 : ((w.alloc (.cells #[.int .u8 3, .int .i64 W, .int .i64 H, .int .u8 2, .int .i64 s] 23)).alloc (.cells #[.int .i64 x, .int .i64 y] 25)).heap[w.heap.size]? = some (.cells #[.int .u8 3, .int .i64 W, .int .i64 H, .int .u8 2, .int .i64 s] 23 (0, 0)) := (bk_alloc (bk_new _ _) _)
  have K2 : ((w.alloc (.cells #[.int .u8 3, .int .i64 W, .int .i64 H, .int .u8 2, .int .i64 s] 23)).alloc (.cells #[.int .i64 x, .int .i64 y] 25)).heap[w.heap.size + 1]? = some (.cells #[.int .i64 x, .int .i64 y] 25 (0, 0)) := (by have := bk_new (w.alloc (.cells #[.int .u8 3, .int .i64 W, .int .i64 H, .int .u8 2, .int .i64 s] 23)) (.cells #[.int .i64 x, .int .i64 y] 25); simpa only [World.size_alloc] using this)
  have hBw : Below w.heap.size w ((w.alloc (.cells #[.int .u8 3, .int .i64 W, .int .i64 H, .int .u8 2, .int .i64 s] 23)).alloc (.cells #[.int .i64 x, .int .i64 y] 25)) := (boxed _ _).alloc (by simp) _
  go_enter Try.func15, Try.ntmps15
  go_wp2_with (first | fail)
  generalize hW0 : ((w.alloc (.cells #[.int .u8 3, .int .i64 W, .int .i64 H, .int .u8 2, .int .i64 s] 23)).alloc (.cells #[.int .i64 x, .int .i64 y] 25)) = W0 at *
  clear hW0
  have hB := same W0
  have K10 := K1
  have K20 := K2
  refine (HR.out _ (by decide)).mono ?_
  rintro e w1 ⟨rfl, hb1⟩
  replace hB := next hB hb1; replace K1 := bk_below K1 hb1; have hcK1 := bk_cell K1; have hfK1 := bk_free K1; have hlK1 := bk_lt K1; replace K2 := bk_below K2 hb1; have hcK2 := bk_cell K2; have hfK2 := bk_free K2; have hlK2 := bk_lt K2
  go_wp2_with (first | (go_at_call 48; ((with_reducible refine (Which5_d _).mono ?_); rintro e w8 ⟨rfl, hb1⟩)) | fail)
  replace hB := next hB (boxed w1 (.cells #[.int .i64 (cellX 3 W H 2 s x y), .int .i64 (cellY 3 W H 2 s x y)] 25))
  replace K1 := bk_alloc K1 (.cells #[.int .i64 (cellX 3 W H 2 s x y), .int .i64 (cellY 3 W H 2 s x y)] 25)
  replace K2 := bk_alloc K2 (.cells #[.int .i64 (cellX 3 W H 2 s x y), .int .i64 (cellY 3 W H 2 s x y)] 25)
  generalize hwr0 : w1.alloc (.cells #[.int .i64 (cellX 3 W H 2 s x y), .int .i64 (cellY 3 W H 2 s x y)] 25) = wr0 at *
  clear hwr0
  have hc1 := bk_cell K1; have hl1 := bk_lt K1; have hc2 := bk_cell K2; have hl2 := bk_lt K2
  have K1S0 := K1; have K2S0 := K2; have hBS0 := same wr0
  go_region_held3 (fun w' => w'.cell? ⟨w.heap.size, 1, none⟩ = some (.int .i64 W) ∧ w'.cell? ⟨w.heap.size, 2, none⟩ = some (.int .i64 H) ∧ w'.cell? ⟨w.heap.size + 1, 0, none⟩ = some (.int .i64 x) ∧ w'.cell? ⟨w.heap.size + 1, 1, none⟩ = some (.int .i64 y) ∧ Below wr0.heap.size wr0 w')
    (first | exact keepTP K1S0 K2S0 (Below.drew hBS0) | exact keepTPn K1S0 K2S0 (by assumption) hb1)
    (first | (go_at_call 40; ((with_reducible refine (first_same _ _ w0 w1_).mono ?_); rintro e w4 ⟨rfl, rfl⟩)) | (go_at_call 47; rw [hwx.out]; ((with_reducible refine (refTile_calls _ _ _ w0 w1_ (by omega) (by omega)).mono ?_); rintro e wt0 ⟨rfl, hb1⟩)) | (go_at_call 46; ((with_reducible refine (refOdd_calls _ _).mono ?_); rintro e wo0 ⟨rfl, hb1⟩; rw [hpd.out])))
  rename_i hH
  replace hB := next hB hH.2.2.2.2
  replace K1 := bk_below K1 hH.2.2.2.2; replace K2 := bk_below K2 hH.2.2.2.2
  have hc1 := bk_cell K1; have hl1 := bk_lt K1; have hc2 := bk_cell K2; have hl2 := bk_lt K2
  clear hH
  go_wp2_with (first | (go_at_call 48; ((with_reducible refine (Which5_d _).mono ?_); rintro e w8 ⟨rfl, hb1⟩)) | fail)
  go_ret2
  exact Ret.of rfl (hBw.trans (Below.mono (next hB (box hb1)) hBw.size))

set_option maxHeartbeats 4000000 in
theorem rPart_32d0 (W H s x y : Int) (w : World) (h : checkE 3 W H 2 s = 0) (hx0 : nearI x = true) (hy0 : nearI y = true) (he : cellE 3 W H 2 s x y = 0) (hd : ((x - first W) / W % 2 == 1) = false) :
    Calls Try.prog 15 #[topoV 3 W H 2 s, pt x y] w (Ret (.tuple #[.int .i64 0, .int .i64 0]) w) := by
  have h0 := topoOk (by decide) h
  have hrc := refCell_calls 3 W H 2 s x y
  rw [he] at hrc
  have HR := Lib.hid hrc
  have w0 := h0.w0; have w1_ := h0.w1; have h0_ := h0.h0; have h1_ := h0.h1
  obtain ⟨f1, f2⟩ := first_bounds W w0 w1_
  obtain ⟨f3, f4⟩ := first_bounds H h0_ h1_
  obtain ⟨x1, x2⟩ := nearI_iff.1 hx0
  obtain ⟨y1, y2⟩ := nearI_iff.1 hy0
  have hwy : Hid (IntKind.i64.wrap (y - first H) = y - first H) := by show _ = _; rw [IntKind.wrap_i64]; omega
  have hwx : Hid (IntKind.i64.wrap (x - first W) = x - first W) := by show _ = _; rw [IntKind.wrap_i64]; omega
  clear h0 he hrc h hx0 hy0
  have hpd := Lib.hid hd; clear hd
  have K1 : ((w.alloc (.cells #[.int .u8 3, .int .i64 W, .int .i64 H, .int .u8 2, .int .i64 s] 23)).alloc (.cells #[.int .i64 x, .int .i64 y] 25)).heap[w.heap.size]? = some (.cells #[.int .u8 3, .int .i64 W, .int .i64 H, .int .u8 2, .int .i64 s] 23 (0, 0)) := (bk_alloc (bk_new _ _) _)
  have K2 : ((w.alloc (.cells #[.int .u8 3, .int .i64 W, .int .i64 H, .int .u8 2, .int .i64 s] 23)).alloc (.cells #[.int .i64 x, .int .i64 y] 25)).heap[w.heap.size + 1]? = some (.cells #[.int .i64 x, .int .i64 y] 25 (0, 0)) := (by have := bk_new (w.alloc (.cells #[.int .u8 3, .int .i64 W, .int .i64 H, .int .u8 2, .int .i64 s] 23)) (.cells #[.int .i64 x, .int .i64 y] 25); simpa only [World.size_alloc] using this)
  have hBw : Below w.heap.size w ((w.alloc (.cells #[.int .u8 3, .int .i64 W, .int .i64 H, .int .u8 2, .int .i64 s] 23)).alloc (.cells #[.int .i64 x, .int .i64 y] 25)) := (boxed _ _).alloc (by simp) _
  go_enter Try.func15, Try.ntmps15
  go_wp2_with (first | fail)
  generalize hW0 : ((w.alloc (.cells #[.int .u8 3, .int .i64 W, .int .i64 H, .int .u8 2, .int .i64 s] 23)).alloc (.cells #[.int .i64 x, .int .i64 y] 25)) = W0 at *
  clear hW0
  have hB := same W0
  have K10 := K1
  have K20 := K2
  refine (HR.out _ (by decide)).mono ?_
  rintro e w1 ⟨rfl, hb1⟩
  replace hB := next hB hb1; replace K1 := bk_below K1 hb1; have hcK1 := bk_cell K1; have hfK1 := bk_free K1; have hlK1 := bk_lt K1; replace K2 := bk_below K2 hb1; have hcK2 := bk_cell K2; have hfK2 := bk_free K2; have hlK2 := bk_lt K2
  go_wp2_with (first | (go_at_call 48; ((with_reducible refine (Which5_a _).mono ?_); rintro e w8 ⟨rfl, hb1⟩)) | fail)
  replace hB := next hB (boxed w1 (.cells #[.int .i64 (cellX 3 W H 2 s x y), .int .i64 (cellY 3 W H 2 s x y)] 25))
  replace K1 := bk_alloc K1 (.cells #[.int .i64 (cellX 3 W H 2 s x y), .int .i64 (cellY 3 W H 2 s x y)] 25)
  replace K2 := bk_alloc K2 (.cells #[.int .i64 (cellX 3 W H 2 s x y), .int .i64 (cellY 3 W H 2 s x y)] 25)
  generalize hwr0 : w1.alloc (.cells #[.int .i64 (cellX 3 W H 2 s x y), .int .i64 (cellY 3 W H 2 s x y)] 25) = wr0 at *
  clear hwr0
  have hc1 := bk_cell K1; have hl1 := bk_lt K1; have hc2 := bk_cell K2; have hl2 := bk_lt K2
  have K1S0 := K1; have K2S0 := K2; have hBS0 := same wr0
  go_region_held3 (fun w' => w'.cell? ⟨w.heap.size, 1, none⟩ = some (.int .i64 W) ∧ w'.cell? ⟨w.heap.size, 2, none⟩ = some (.int .i64 H) ∧ w'.cell? ⟨w.heap.size + 1, 0, none⟩ = some (.int .i64 x) ∧ w'.cell? ⟨w.heap.size + 1, 1, none⟩ = some (.int .i64 y) ∧ Below wr0.heap.size wr0 w')
    (first | exact keepTP K1S0 K2S0 (Below.drew hBS0) | exact keepTPn K1S0 K2S0 (by assumption) hb1)
    (first | (go_at_call 40; ((with_reducible refine (first_same _ _ w0 w1_).mono ?_); rintro e w4 ⟨rfl, rfl⟩)) | (go_at_call 47; rw [hwx.out]; ((with_reducible refine (refTile_calls _ _ _ w0 w1_ (by omega) (by omega)).mono ?_); rintro e wt0 ⟨rfl, hb1⟩)) | (go_at_call 46; ((with_reducible refine (refOdd_calls _ _).mono ?_); rintro e wo0 ⟨rfl, hb1⟩; rw [hpd.out])))
  rename_i hH
  replace hB := next hB hH.2.2.2.2
  replace K1 := bk_below K1 hH.2.2.2.2; replace K2 := bk_below K2 hH.2.2.2.2
  have hc1 := bk_cell K1; have hl1 := bk_lt K1; have hc2 := bk_cell K2; have hl2 := bk_lt K2
  clear hH
  go_wp2_with (first | (go_at_call 48; ((with_reducible refine (Which5_a _).mono ?_); rintro e w8 ⟨rfl, hb1⟩)) | fail)
  go_ret2
  exact Ret.of rfl (hBw.trans (Below.mono (next hB (box hb1)) hBw.size))

set_option maxHeartbeats 4000000 in
theorem rPart_40a1d1 (W H s x y : Int) (w : World) (h : checkE 4 W H 0 s = 0) (hx0 : nearI x = true) (hy0 : nearI y = true) (he : cellE 4 W H 0 s x y = 0) (ha : ((y - first H) / H % 2 == 1) = true) (hd : ((x - first W) / W % 2 == 1) = true) :
    Calls Try.prog 15 #[topoV 4 W H 0 s, pt x y] w (Ret (.tuple #[.int .i64 2, .int .i64 0]) w) := by
  have h0 := topoOk (by decide) h
  have hrc := refCell_calls 4 W H 0 s x y
  rw [he] at hrc
  have HR := Lib.hid hrc
  have w0 := h0.w0; have w1_ := h0.w1; have h0_ := h0.h0; have h1_ := h0.h1
  obtain ⟨f1, f2⟩ := first_bounds W w0 w1_
  obtain ⟨f3, f4⟩ := first_bounds H h0_ h1_
  obtain ⟨x1, x2⟩ := nearI_iff.1 hx0
  obtain ⟨y1, y2⟩ := nearI_iff.1 hy0
  have hwy : Hid (IntKind.i64.wrap (y - first H) = y - first H) := by show _ = _; rw [IntKind.wrap_i64]; omega
  have hwx : Hid (IntKind.i64.wrap (x - first W) = x - first W) := by show _ = _; rw [IntKind.wrap_i64]; omega
  clear h0 he hrc h hx0 hy0
  have hpa := Lib.hid ha; clear ha
  have hpd := Lib.hid hd; clear hd
  have K1 : ((w.alloc (.cells #[.int .u8 4, .int .i64 W, .int .i64 H, .int .u8 0, .int .i64 s] 23)).alloc (.cells #[.int .i64 x, .int .i64 y] 25)).heap[w.heap.size]? = some (.cells #[.int .u8 4, .int .i64 W, .int .i64 H, .int .u8 0, .int .i64 s] 23 (0, 0)) := (bk_alloc (bk_new _ _) _)
  have K2 : ((w.alloc (.cells #[.int .u8 4, .int .i64 W, .int .i64 H, .int .u8 0, .int .i64 s] 23)).alloc (.cells #[.int .i64 x, .int .i64 y] 25)).heap[w.heap.size + 1]? = some (.cells #[.int .i64 x, .int .i64 y] 25 (0, 0)) := (by have := bk_new (w.alloc (.cells #[.int .u8 4, .int .i64 W, .int .i64 H, .int .u8 0, .int .i64 s] 23)) (.cells #[.int .i64 x, .int .i64 y] 25); simpa only [World.size_alloc] using this)
  have hBw : Below w.heap.size w ((w.alloc (.cells #[.int .u8 4, .int .i64 W, .int .i64 H, .int .u8 0, .int .i64 s] 23)).alloc (.cells #[.int .i64 x, .int .i64 y] 25)) := (boxed _ _).alloc (by simp) _
  go_enter Try.func15, Try.ntmps15
  go_wp2_with (first | fail)
  generalize hW0 : ((w.alloc (.cells #[.int .u8 4, .int .i64 W, .int .i64 H, .int .u8 0, .int .i64 s] 23)).alloc (.cells #[.int .i64 x, .int .i64 y] 25)) = W0 at *
  clear hW0
  have hB := same W0
  have K10 := K1
  have K20 := K2
  refine (HR.out _ (by decide)).mono ?_
  rintro e w1 ⟨rfl, hb1⟩
  replace hB := next hB hb1; replace K1 := bk_below K1 hb1; have hcK1 := bk_cell K1; have hfK1 := bk_free K1; have hlK1 := bk_lt K1; replace K2 := bk_below K2 hb1; have hcK2 := bk_cell K2; have hfK2 := bk_free K2; have hlK2 := bk_lt K2
  go_wp2_with (first | (go_at_call 48; ((with_reducible refine (Which5_b _).mono ?_); rintro e w8 ⟨rfl, hb1⟩)) | fail)
  replace hB := next hB (boxed w1 (.cells #[.int .i64 (cellX 4 W H 0 s x y), .int .i64 (cellY 4 W H 0 s x y)] 25))
  replace K1 := bk_alloc K1 (.cells #[.int .i64 (cellX 4 W H 0 s x y), .int .i64 (cellY 4 W H 0 s x y)] 25)
  replace K2 := bk_alloc K2 (.cells #[.int .i64 (cellX 4 W H 0 s x y), .int .i64 (cellY 4 W H 0 s x y)] 25)
  generalize hwr0 : w1.alloc (.cells #[.int .i64 (cellX 4 W H 0 s x y), .int .i64 (cellY 4 W H 0 s x y)] 25) = wr0 at *
  clear hwr0
  have hc1 := bk_cell K1; have hl1 := bk_lt K1; have hc2 := bk_cell K2; have hl2 := bk_lt K2
  have K1S0 := K1; have K2S0 := K2; have hBS0 := same wr0
  go_region_held3 (fun w' => w'.cell? ⟨w.heap.size, 1, none⟩ = some (.int .i64 W) ∧ w'.cell? ⟨w.heap.size, 2, none⟩ = some (.int .i64 H) ∧ w'.cell? ⟨w.heap.size + 1, 0, none⟩ = some (.int .i64 x) ∧ w'.cell? ⟨w.heap.size + 1, 1, none⟩ = some (.int .i64 y) ∧ Below wr0.heap.size wr0 w')
    (first | exact keepTP K1S0 K2S0 (Below.drew hBS0) | exact keepTPn K1S0 K2S0 (by assumption) hb1)
    (first | (go_at_call 40; ((with_reducible refine (first_same _ _ h0_ h1_).mono ?_); rintro e w4 ⟨rfl, rfl⟩)) | (go_at_call 47; rw [hwy.out]; ((with_reducible refine (refTile_calls _ _ _ h0_ h1_ (by omega) (by omega)).mono ?_); rintro e wt0 ⟨rfl, hb1⟩)) | (go_at_call 46; ((with_reducible refine (refOdd_calls _ _).mono ?_); rintro e wo0 ⟨rfl, hb1⟩; rw [hpa.out])))
  rename_i hH
  replace hB := next hB hH.2.2.2.2
  replace K1 := bk_below K1 hH.2.2.2.2; replace K2 := bk_below K2 hH.2.2.2.2
  have hc1 := bk_cell K1; have hl1 := bk_lt K1; have hc2 := bk_cell K2; have hl2 := bk_lt K2
  clear hH
  go_wp2_with (first | (go_at_call 48; ((with_reducible refine (Which5_b _).mono ?_); rintro e w8 ⟨rfl, hb1⟩)) | fail)
  obtain ⟨wr1, hwr1⟩ : ∃ wr1, wr1 = wo0 := ⟨_, rfl⟩
  rw [← hwr1] at hc1 hl1 hc2 hl2 hB K1 K2 ⊢
  clear hwr1
  have K1S1 := K1; have K2S1 := K2; have hBS1 := same wr1
  go_region_held3 (fun w' => w'.cell? ⟨w.heap.size, 1, none⟩ = some (.int .i64 W) ∧ w'.cell? ⟨w.heap.size, 2, none⟩ = some (.int .i64 H) ∧ w'.cell? ⟨w.heap.size + 1, 0, none⟩ = some (.int .i64 x) ∧ w'.cell? ⟨w.heap.size + 1, 1, none⟩ = some (.int .i64 y) ∧ Below wr1.heap.size wr1 w')
    (first | exact keepTP K1S1 K2S1 (Below.drew hBS1) | exact keepTPn K1S1 K2S1 (by assumption) hb1)
    (first | (go_at_call 40; ((with_reducible refine (first_same _ _ w0 w1_).mono ?_); rintro e w4 ⟨rfl, rfl⟩)) | (go_at_call 47; rw [hwx.out]; ((with_reducible refine (refTile_calls _ _ _ w0 w1_ (by omega) (by omega)).mono ?_); rintro e wt1 ⟨rfl, hb1⟩)) | (go_at_call 46; ((with_reducible refine (refOdd_calls _ _).mono ?_); rintro e wo1 ⟨rfl, hb1⟩; rw [hpd.out])))
  rename_i hH
  replace hB := next hB hH.2.2.2.2
  replace K1 := bk_below K1 hH.2.2.2.2; replace K2 := bk_below K2 hH.2.2.2.2
  have hc1 := bk_cell K1; have hl1 := bk_lt K1; have hc2 := bk_cell K2; have hl2 := bk_lt K2
  clear hH
  go_wp2_with (first | (go_at_call 48; ((with_reducible refine (Which5_b _).mono ?_); rintro e w8 ⟨rfl, hb1⟩)) | fail)
  go_ret2
  exact Ret.of rfl (hBw.trans (Below.mono (next hB (box hb1)) hBw.size))

set_option maxHeartbeats 4000000 in
theorem rPart_40a1d0 (W H s x y : Int) (w : World) (h : checkE 4 W H 0 s = 0) (hx0 : nearI x = true) (hy0 : nearI y = true) (he : cellE 4 W H 0 s x y = 0) (ha : ((y - first H) / H % 2 == 1) = true) (hd : ((x - first W) / W % 2 == 1) = false) :
    Calls Try.prog 15 #[topoV 4 W H 0 s, pt x y] w (Ret (.tuple #[.int .i64 6, .int .i64 0]) w) := by
  have h0 := topoOk (by decide) h
  have hrc := refCell_calls 4 W H 0 s x y
  rw [he] at hrc
  have HR := Lib.hid hrc
  have w0 := h0.w0; have w1_ := h0.w1; have h0_ := h0.h0; have h1_ := h0.h1
  obtain ⟨f1, f2⟩ := first_bounds W w0 w1_
  obtain ⟨f3, f4⟩ := first_bounds H h0_ h1_
  obtain ⟨x1, x2⟩ := nearI_iff.1 hx0
  obtain ⟨y1, y2⟩ := nearI_iff.1 hy0
  have hwy : Hid (IntKind.i64.wrap (y - first H) = y - first H) := by show _ = _; rw [IntKind.wrap_i64]; omega
  have hwx : Hid (IntKind.i64.wrap (x - first W) = x - first W) := by show _ = _; rw [IntKind.wrap_i64]; omega
  clear h0 he hrc h hx0 hy0
  have hpa := Lib.hid ha; clear ha
  have hpd := Lib.hid hd; clear hd
  have K1 : ((w.alloc (.cells #[.int .u8 4, .int .i64 W, .int .i64 H, .int .u8 0, .int .i64 s] 23)).alloc (.cells #[.int .i64 x, .int .i64 y] 25)).heap[w.heap.size]? = some (.cells #[.int .u8 4, .int .i64 W, .int .i64 H, .int .u8 0, .int .i64 s] 23 (0, 0)) := (bk_alloc (bk_new _ _) _)
  have K2 : ((w.alloc (.cells #[.int .u8 4, .int .i64 W, .int .i64 H, .int .u8 0, .int .i64 s] 23)).alloc (.cells #[.int .i64 x, .int .i64 y] 25)).heap[w.heap.size + 1]? = some (.cells #[.int .i64 x, .int .i64 y] 25 (0, 0)) := (by have := bk_new (w.alloc (.cells #[.int .u8 4, .int .i64 W, .int .i64 H, .int .u8 0, .int .i64 s] 23)) (.cells #[.int .i64 x, .int .i64 y] 25); simpa only [World.size_alloc] using this)
  have hBw : Below w.heap.size w ((w.alloc (.cells #[.int .u8 4, .int .i64 W, .int .i64 H, .int .u8 0, .int .i64 s] 23)).alloc (.cells #[.int .i64 x, .int .i64 y] 25)) := (boxed _ _).alloc (by simp) _
  go_enter Try.func15, Try.ntmps15
  go_wp2_with (first | fail)
  generalize hW0 : ((w.alloc (.cells #[.int .u8 4, .int .i64 W, .int .i64 H, .int .u8 0, .int .i64 s] 23)).alloc (.cells #[.int .i64 x, .int .i64 y] 25)) = W0 at *
  clear hW0
  have hB := same W0
  have K10 := K1
  have K20 := K2
  refine (HR.out _ (by decide)).mono ?_
  rintro e w1 ⟨rfl, hb1⟩
  replace hB := next hB hb1; replace K1 := bk_below K1 hb1; have hcK1 := bk_cell K1; have hfK1 := bk_free K1; have hlK1 := bk_lt K1; replace K2 := bk_below K2 hb1; have hcK2 := bk_cell K2; have hfK2 := bk_free K2; have hlK2 := bk_lt K2
  go_wp2_with (first | (go_at_call 48; ((with_reducible refine (Which5_c _).mono ?_); rintro e w8 ⟨rfl, hb1⟩)) | fail)
  replace hB := next hB (boxed w1 (.cells #[.int .i64 (cellX 4 W H 0 s x y), .int .i64 (cellY 4 W H 0 s x y)] 25))
  replace K1 := bk_alloc K1 (.cells #[.int .i64 (cellX 4 W H 0 s x y), .int .i64 (cellY 4 W H 0 s x y)] 25)
  replace K2 := bk_alloc K2 (.cells #[.int .i64 (cellX 4 W H 0 s x y), .int .i64 (cellY 4 W H 0 s x y)] 25)
  generalize hwr0 : w1.alloc (.cells #[.int .i64 (cellX 4 W H 0 s x y), .int .i64 (cellY 4 W H 0 s x y)] 25) = wr0 at *
  clear hwr0
  have hc1 := bk_cell K1; have hl1 := bk_lt K1; have hc2 := bk_cell K2; have hl2 := bk_lt K2
  have K1S0 := K1; have K2S0 := K2; have hBS0 := same wr0
  go_region_held3 (fun w' => w'.cell? ⟨w.heap.size, 1, none⟩ = some (.int .i64 W) ∧ w'.cell? ⟨w.heap.size, 2, none⟩ = some (.int .i64 H) ∧ w'.cell? ⟨w.heap.size + 1, 0, none⟩ = some (.int .i64 x) ∧ w'.cell? ⟨w.heap.size + 1, 1, none⟩ = some (.int .i64 y) ∧ Below wr0.heap.size wr0 w')
    (first | exact keepTP K1S0 K2S0 (Below.drew hBS0) | exact keepTPn K1S0 K2S0 (by assumption) hb1)
    (first | (go_at_call 40; ((with_reducible refine (first_same _ _ h0_ h1_).mono ?_); rintro e w4 ⟨rfl, rfl⟩)) | (go_at_call 47; rw [hwy.out]; ((with_reducible refine (refTile_calls _ _ _ h0_ h1_ (by omega) (by omega)).mono ?_); rintro e wt0 ⟨rfl, hb1⟩)) | (go_at_call 46; ((with_reducible refine (refOdd_calls _ _).mono ?_); rintro e wo0 ⟨rfl, hb1⟩; rw [hpa.out])))
  rename_i hH
  replace hB := next hB hH.2.2.2.2
  replace K1 := bk_below K1 hH.2.2.2.2; replace K2 := bk_below K2 hH.2.2.2.2
  have hc1 := bk_cell K1; have hl1 := bk_lt K1; have hc2 := bk_cell K2; have hl2 := bk_lt K2
  clear hH
  go_wp2_with (first | (go_at_call 48; ((with_reducible refine (Which5_c _).mono ?_); rintro e w8 ⟨rfl, hb1⟩)) | fail)
  obtain ⟨wr1, hwr1⟩ : ∃ wr1, wr1 = wo0 := ⟨_, rfl⟩
  rw [← hwr1] at hc1 hl1 hc2 hl2 hB K1 K2 ⊢
  clear hwr1
  have K1S1 := K1; have K2S1 := K2; have hBS1 := same wr1
  go_region_held3 (fun w' => w'.cell? ⟨w.heap.size, 1, none⟩ = some (.int .i64 W) ∧ w'.cell? ⟨w.heap.size, 2, none⟩ = some (.int .i64 H) ∧ w'.cell? ⟨w.heap.size + 1, 0, none⟩ = some (.int .i64 x) ∧ w'.cell? ⟨w.heap.size + 1, 1, none⟩ = some (.int .i64 y) ∧ Below wr1.heap.size wr1 w')
    (first | exact keepTP K1S1 K2S1 (Below.drew hBS1) | exact keepTPn K1S1 K2S1 (by assumption) hb1)
    (first | (go_at_call 40; ((with_reducible refine (first_same _ _ w0 w1_).mono ?_); rintro e w4 ⟨rfl, rfl⟩)) | (go_at_call 47; rw [hwx.out]; ((with_reducible refine (refTile_calls _ _ _ w0 w1_ (by omega) (by omega)).mono ?_); rintro e wt1 ⟨rfl, hb1⟩)) | (go_at_call 46; ((with_reducible refine (refOdd_calls _ _).mono ?_); rintro e wo1 ⟨rfl, hb1⟩; rw [hpd.out])))
  rename_i hH
  replace hB := next hB hH.2.2.2.2
  replace K1 := bk_below K1 hH.2.2.2.2; replace K2 := bk_below K2 hH.2.2.2.2
  have hc1 := bk_cell K1; have hl1 := bk_lt K1; have hc2 := bk_cell K2; have hl2 := bk_lt K2
  clear hH
  go_wp2_with (first | (go_at_call 48; ((with_reducible refine (Which5_c _).mono ?_); rintro e w8 ⟨rfl, hb1⟩)) | fail)
  go_ret2
  exact Ret.of rfl (hBw.trans (Below.mono (next hB (box hb1)) hBw.size))

set_option maxHeartbeats 4000000 in
theorem rPart_40a0d1 (W H s x y : Int) (w : World) (h : checkE 4 W H 0 s = 0) (hx0 : nearI x = true) (hy0 : nearI y = true) (he : cellE 4 W H 0 s x y = 0) (ha : ((y - first H) / H % 2 == 1) = false) (hd : ((x - first W) / W % 2 == 1) = true) :
    Calls Try.prog 15 #[topoV 4 W H 0 s, pt x y] w (Ret (.tuple #[.int .i64 4, .int .i64 0]) w) := by
  have h0 := topoOk (by decide) h
  have hrc := refCell_calls 4 W H 0 s x y
  rw [he] at hrc
  have HR := Lib.hid hrc
  have w0 := h0.w0; have w1_ := h0.w1; have h0_ := h0.h0; have h1_ := h0.h1
  obtain ⟨f1, f2⟩ := first_bounds W w0 w1_
  obtain ⟨f3, f4⟩ := first_bounds H h0_ h1_
  obtain ⟨x1, x2⟩ := nearI_iff.1 hx0
  obtain ⟨y1, y2⟩ := nearI_iff.1 hy0
  have hwy : Hid (IntKind.i64.wrap (y - first H) = y - first H) := by show _ = _; rw [IntKind.wrap_i64]; omega
  have hwx : Hid (IntKind.i64.wrap (x - first W) = x - first W) := by show _ = _; rw [IntKind.wrap_i64]; omega
  clear h0 he hrc h hx0 hy0
  have hpa := Lib.hid ha; clear ha
  have hpd := Lib.hid hd; clear hd
  have K1 : ((w.alloc (.cells #[.int .u8 4, .int .i64 W, .int .i64 H, .int .u8 0, .int .i64 s] 23)).alloc (.cells #[.int .i64 x, .int .i64 y] 25)).heap[w.heap.size]? = some (.cells #[.int .u8 4, .int .i64 W, .int .i64 H, .int .u8 0, .int .i64 s] 23 (0, 0)) := (bk_alloc (bk_new _ _) _)
  have K2 : ((w.alloc (.cells #[.int .u8 4, .int .i64 W, .int .i64 H, .int .u8 0, .int .i64 s] 23)).alloc (.cells #[.int .i64 x, .int .i64 y] 25)).heap[w.heap.size + 1]? = some (.cells #[.int .i64 x, .int .i64 y] 25 (0, 0)) := (by have := bk_new (w.alloc (.cells #[.int .u8 4, .int .i64 W, .int .i64 H, .int .u8 0, .int .i64 s] 23)) (.cells #[.int .i64 x, .int .i64 y] 25); simpa only [World.size_alloc] using this)
  have hBw : Below w.heap.size w ((w.alloc (.cells #[.int .u8 4, .int .i64 W, .int .i64 H, .int .u8 0, .int .i64 s] 23)).alloc (.cells #[.int .i64 x, .int .i64 y] 25)) := (boxed _ _).alloc (by simp) _
  go_enter Try.func15, Try.ntmps15
  go_wp2_with (first | fail)
  generalize hW0 : ((w.alloc (.cells #[.int .u8 4, .int .i64 W, .int .i64 H, .int .u8 0, .int .i64 s] 23)).alloc (.cells #[.int .i64 x, .int .i64 y] 25)) = W0 at *
  clear hW0
  have hB := same W0
  have K10 := K1
  have K20 := K2
  refine (HR.out _ (by decide)).mono ?_
  rintro e w1 ⟨rfl, hb1⟩
  replace hB := next hB hb1; replace K1 := bk_below K1 hb1; have hcK1 := bk_cell K1; have hfK1 := bk_free K1; have hlK1 := bk_lt K1; replace K2 := bk_below K2 hb1; have hcK2 := bk_cell K2; have hfK2 := bk_free K2; have hlK2 := bk_lt K2
  go_wp2_with (first | (go_at_call 48; ((with_reducible refine (Which5_d _).mono ?_); rintro e w8 ⟨rfl, hb1⟩)) | fail)
  replace hB := next hB (boxed w1 (.cells #[.int .i64 (cellX 4 W H 0 s x y), .int .i64 (cellY 4 W H 0 s x y)] 25))
  replace K1 := bk_alloc K1 (.cells #[.int .i64 (cellX 4 W H 0 s x y), .int .i64 (cellY 4 W H 0 s x y)] 25)
  replace K2 := bk_alloc K2 (.cells #[.int .i64 (cellX 4 W H 0 s x y), .int .i64 (cellY 4 W H 0 s x y)] 25)
  generalize hwr0 : w1.alloc (.cells #[.int .i64 (cellX 4 W H 0 s x y), .int .i64 (cellY 4 W H 0 s x y)] 25) = wr0 at *
  clear hwr0
  have hc1 := bk_cell K1; have hl1 := bk_lt K1; have hc2 := bk_cell K2; have hl2 := bk_lt K2
  have K1S0 := K1; have K2S0 := K2; have hBS0 := same wr0
  go_region_held3 (fun w' => w'.cell? ⟨w.heap.size, 1, none⟩ = some (.int .i64 W) ∧ w'.cell? ⟨w.heap.size, 2, none⟩ = some (.int .i64 H) ∧ w'.cell? ⟨w.heap.size + 1, 0, none⟩ = some (.int .i64 x) ∧ w'.cell? ⟨w.heap.size + 1, 1, none⟩ = some (.int .i64 y) ∧ Below wr0.heap.size wr0 w')
    (first | exact keepTP K1S0 K2S0 (Below.drew hBS0) | exact keepTPn K1S0 K2S0 (by assumption) hb1)
    (first | (go_at_call 40; ((with_reducible refine (first_same _ _ h0_ h1_).mono ?_); rintro e w4 ⟨rfl, rfl⟩)) | (go_at_call 47; rw [hwy.out]; ((with_reducible refine (refTile_calls _ _ _ h0_ h1_ (by omega) (by omega)).mono ?_); rintro e wt0 ⟨rfl, hb1⟩)) | (go_at_call 46; ((with_reducible refine (refOdd_calls _ _).mono ?_); rintro e wo0 ⟨rfl, hb1⟩; rw [hpa.out])))
  rename_i hH
  replace hB := next hB hH.2.2.2.2
  replace K1 := bk_below K1 hH.2.2.2.2; replace K2 := bk_below K2 hH.2.2.2.2
  have hc1 := bk_cell K1; have hl1 := bk_lt K1; have hc2 := bk_cell K2; have hl2 := bk_lt K2
  clear hH
  go_wp2_with (first | (go_at_call 48; ((with_reducible refine (Which5_d _).mono ?_); rintro e w8 ⟨rfl, hb1⟩)) | fail)
  obtain ⟨wr1, hwr1⟩ : ∃ wr1, wr1 = wo0 := ⟨_, rfl⟩
  rw [← hwr1] at hc1 hl1 hc2 hl2 hB K1 K2 ⊢
  clear hwr1
  have K1S1 := K1; have K2S1 := K2; have hBS1 := same wr1
  go_region_held3 (fun w' => w'.cell? ⟨w.heap.size, 1, none⟩ = some (.int .i64 W) ∧ w'.cell? ⟨w.heap.size, 2, none⟩ = some (.int .i64 H) ∧ w'.cell? ⟨w.heap.size + 1, 0, none⟩ = some (.int .i64 x) ∧ w'.cell? ⟨w.heap.size + 1, 1, none⟩ = some (.int .i64 y) ∧ Below wr1.heap.size wr1 w')
    (first | exact keepTP K1S1 K2S1 (Below.drew hBS1) | exact keepTPn K1S1 K2S1 (by assumption) hb1)
    (first | (go_at_call 40; ((with_reducible refine (first_same _ _ w0 w1_).mono ?_); rintro e w4 ⟨rfl, rfl⟩)) | (go_at_call 47; rw [hwx.out]; ((with_reducible refine (refTile_calls _ _ _ w0 w1_ (by omega) (by omega)).mono ?_); rintro e wt1 ⟨rfl, hb1⟩)) | (go_at_call 46; ((with_reducible refine (refOdd_calls _ _).mono ?_); rintro e wo1 ⟨rfl, hb1⟩; rw [hpd.out])))
  rename_i hH
  replace hB := next hB hH.2.2.2.2
  replace K1 := bk_below K1 hH.2.2.2.2; replace K2 := bk_below K2 hH.2.2.2.2
  have hc1 := bk_cell K1; have hl1 := bk_lt K1; have hc2 := bk_cell K2; have hl2 := bk_lt K2
  clear hH
  go_wp2_with (first | (go_at_call 48; ((with_reducible refine (Which5_d _).mono ?_); rintro e w8 ⟨rfl, hb1⟩)) | fail)
  go_ret2
  exact Ret.of rfl (hBw.trans (Below.mono (next hB (box hb1)) hBw.size))

set_option maxHeartbeats 4000000 in
theorem rPart_40a0d0 (W H s x y : Int) (w : World) (h : checkE 4 W H 0 s = 0) (hx0 : nearI x = true) (hy0 : nearI y = true) (he : cellE 4 W H 0 s x y = 0) (ha : ((y - first H) / H % 2 == 1) = false) (hd : ((x - first W) / W % 2 == 1) = false) :
    Calls Try.prog 15 #[topoV 4 W H 0 s, pt x y] w (Ret (.tuple #[.int .i64 0, .int .i64 0]) w) := by
  have h0 := topoOk (by decide) h
  have hrc := refCell_calls 4 W H 0 s x y
  rw [he] at hrc
  have HR := Lib.hid hrc
  have w0 := h0.w0; have w1_ := h0.w1; have h0_ := h0.h0; have h1_ := h0.h1
  obtain ⟨f1, f2⟩ := first_bounds W w0 w1_
  obtain ⟨f3, f4⟩ := first_bounds H h0_ h1_
  obtain ⟨x1, x2⟩ := nearI_iff.1 hx0
  obtain ⟨y1, y2⟩ := nearI_iff.1 hy0
  have hwy : Hid (IntKind.i64.wrap (y - first H) = y - first H) := by show _ = _; rw [IntKind.wrap_i64]; omega
  have hwx : Hid (IntKind.i64.wrap (x - first W) = x - first W) := by show _ = _; rw [IntKind.wrap_i64]; omega
  clear h0 he hrc h hx0 hy0
  have hpa := Lib.hid ha; clear ha
  have hpd := Lib.hid hd; clear hd
  have K1 : ((w.alloc (.cells #[.int .u8 4, .int .i64 W, .int .i64 H, .int .u8 0, .int .i64 s] 23)).alloc (.cells #[.int .i64 x, .int .i64 y] 25)).heap[w.heap.size]? = some (.cells #[.int .u8 4, .int .i64 W, .int .i64 H, .int .u8 0, .int .i64 s] 23 (0, 0)) := (bk_alloc (bk_new _ _) _)
  have K2 : ((w.alloc (.cells #[.int .u8 4, .int .i64 W, .int .i64 H, .int .u8 0, .int .i64 s] 23)).alloc (.cells #[.int .i64 x, .int .i64 y] 25)).heap[w.heap.size + 1]? = some (.cells #[.int .i64 x, .int .i64 y] 25 (0, 0)) := (by have := bk_new (w.alloc (.cells #[.int .u8 4, .int .i64 W, .int .i64 H, .int .u8 0, .int .i64 s] 23)) (.cells #[.int .i64 x, .int .i64 y] 25); simpa only [World.size_alloc] using this)
  have hBw : Below w.heap.size w ((w.alloc (.cells #[.int .u8 4, .int .i64 W, .int .i64 H, .int .u8 0, .int .i64 s] 23)).alloc (.cells #[.int .i64 x, .int .i64 y] 25)) := (boxed _ _).alloc (by simp) _
  go_enter Try.func15, Try.ntmps15
  go_wp2_with (first | fail)
  generalize hW0 : ((w.alloc (.cells #[.int .u8 4, .int .i64 W, .int .i64 H, .int .u8 0, .int .i64 s] 23)).alloc (.cells #[.int .i64 x, .int .i64 y] 25)) = W0 at *
  clear hW0
  have hB := same W0
  have K10 := K1
  have K20 := K2
  refine (HR.out _ (by decide)).mono ?_
  rintro e w1 ⟨rfl, hb1⟩
  replace hB := next hB hb1; replace K1 := bk_below K1 hb1; have hcK1 := bk_cell K1; have hfK1 := bk_free K1; have hlK1 := bk_lt K1; replace K2 := bk_below K2 hb1; have hcK2 := bk_cell K2; have hfK2 := bk_free K2; have hlK2 := bk_lt K2
  go_wp2_with (first | (go_at_call 48; ((with_reducible refine (Which5_a _).mono ?_); rintro e w8 ⟨rfl, hb1⟩)) | fail)
  replace hB := next hB (boxed w1 (.cells #[.int .i64 (cellX 4 W H 0 s x y), .int .i64 (cellY 4 W H 0 s x y)] 25))
  replace K1 := bk_alloc K1 (.cells #[.int .i64 (cellX 4 W H 0 s x y), .int .i64 (cellY 4 W H 0 s x y)] 25)
  replace K2 := bk_alloc K2 (.cells #[.int .i64 (cellX 4 W H 0 s x y), .int .i64 (cellY 4 W H 0 s x y)] 25)
  generalize hwr0 : w1.alloc (.cells #[.int .i64 (cellX 4 W H 0 s x y), .int .i64 (cellY 4 W H 0 s x y)] 25) = wr0 at *
  clear hwr0
  have hc1 := bk_cell K1; have hl1 := bk_lt K1; have hc2 := bk_cell K2; have hl2 := bk_lt K2
  have K1S0 := K1; have K2S0 := K2; have hBS0 := same wr0
  go_region_held3 (fun w' => w'.cell? ⟨w.heap.size, 1, none⟩ = some (.int .i64 W) ∧ w'.cell? ⟨w.heap.size, 2, none⟩ = some (.int .i64 H) ∧ w'.cell? ⟨w.heap.size + 1, 0, none⟩ = some (.int .i64 x) ∧ w'.cell? ⟨w.heap.size + 1, 1, none⟩ = some (.int .i64 y) ∧ Below wr0.heap.size wr0 w')
    (first | exact keepTP K1S0 K2S0 (Below.drew hBS0) | exact keepTPn K1S0 K2S0 (by assumption) hb1)
    (first | (go_at_call 40; ((with_reducible refine (first_same _ _ h0_ h1_).mono ?_); rintro e w4 ⟨rfl, rfl⟩)) | (go_at_call 47; rw [hwy.out]; ((with_reducible refine (refTile_calls _ _ _ h0_ h1_ (by omega) (by omega)).mono ?_); rintro e wt0 ⟨rfl, hb1⟩)) | (go_at_call 46; ((with_reducible refine (refOdd_calls _ _).mono ?_); rintro e wo0 ⟨rfl, hb1⟩; rw [hpa.out])))
  rename_i hH
  replace hB := next hB hH.2.2.2.2
  replace K1 := bk_below K1 hH.2.2.2.2; replace K2 := bk_below K2 hH.2.2.2.2
  have hc1 := bk_cell K1; have hl1 := bk_lt K1; have hc2 := bk_cell K2; have hl2 := bk_lt K2
  clear hH
  go_wp2_with (first | (go_at_call 48; ((with_reducible refine (Which5_a _).mono ?_); rintro e w8 ⟨rfl, hb1⟩)) | fail)
  obtain ⟨wr1, hwr1⟩ : ∃ wr1, wr1 = wo0 := ⟨_, rfl⟩
  rw [← hwr1] at hc1 hl1 hc2 hl2 hB K1 K2 ⊢
  clear hwr1
  have K1S1 := K1; have K2S1 := K2; have hBS1 := same wr1
  go_region_held3 (fun w' => w'.cell? ⟨w.heap.size, 1, none⟩ = some (.int .i64 W) ∧ w'.cell? ⟨w.heap.size, 2, none⟩ = some (.int .i64 H) ∧ w'.cell? ⟨w.heap.size + 1, 0, none⟩ = some (.int .i64 x) ∧ w'.cell? ⟨w.heap.size + 1, 1, none⟩ = some (.int .i64 y) ∧ Below wr1.heap.size wr1 w')
    (first | exact keepTP K1S1 K2S1 (Below.drew hBS1) | exact keepTPn K1S1 K2S1 (by assumption) hb1)
    (first | (go_at_call 40; ((with_reducible refine (first_same _ _ w0 w1_).mono ?_); rintro e w4 ⟨rfl, rfl⟩)) | (go_at_call 47; rw [hwx.out]; ((with_reducible refine (refTile_calls _ _ _ w0 w1_ (by omega) (by omega)).mono ?_); rintro e wt1 ⟨rfl, hb1⟩)) | (go_at_call 46; ((with_reducible refine (refOdd_calls _ _).mono ?_); rintro e wo1 ⟨rfl, hb1⟩; rw [hpd.out])))
  rename_i hH
  replace hB := next hB hH.2.2.2.2
  replace K1 := bk_below K1 hH.2.2.2.2; replace K2 := bk_below K2 hH.2.2.2.2
  have hc1 := bk_cell K1; have hl1 := bk_lt K1; have hc2 := bk_cell K2; have hl2 := bk_lt K2
  clear hH
  go_wp2_with (first | (go_at_call 48; ((with_reducible refine (Which5_a _).mono ?_); rintro e w8 ⟨rfl, hb1⟩)) | fail)
  go_ret2
  exact Ret.of rfl (hBw.trans (Below.mono (next hB (box hb1)) hBw.size))

theorem partN_15 {k W H t s x y : Int} (hk : k = 1 ∨ k = 2 ∨ k = 5) : partN k W H t s x y = 0 := by
  unfold partN
  split
  · rfl
  · rcases hk with rfl | rfl | rfl <;> simp
theorem rPart_calls (k W H t s x y : Int) (w : World) (t0 : 0 ≤ t) :
    Calls Try.prog 15 #[topoV k W H t s, pt x y] w (Ret (.tuple #[.int .i64 (partN k W H t s x y), .int .i64 (cellE k W H t s x y)]) w) := by
  by_cases he : cellE k W H t s x y = 0
  · have h : checkE k W H t s = 0 := by
      unfold cellE at he; split at he
      · cases he
      · rename_i hh; simpa using hh
    have hn : nearI x = true ∧ nearI y = true := by
      unfold cellE at he; rw [if_neg (by simp [h])] at he; split at he
      · cases he
      · rename_i hh; simpa using hh
    have hk := topoOk t0 h
    have k1 := hk.k1; have k5 := hk.k5; have t2 := hk.t2
    rw [he]
    have hp : partN k W H t s x y = (let across : Bool := decide ((k = 3 ∧ t = 1 ∨ k = 4) ∧ (y - first H) / H % 2 = 1); let down : Bool := decide ((k = 3 ∧ t = 2 ∨ k = 4) ∧ (x - first W) / W % 2 = 1); if across && down then 2 else if across then 6 else if down then 4 else 0) := by
      conv => lhs; unfold partN; rw [if_neg (by simp [he])]
    have : k = 1 ∨ k = 2 ∨ k = 3 ∨ k = 4 ∨ k = 5 := by omega
    rcases this with rfl | rfl | rfl | rfl | rfl
    · rw [partN_15 (by decide)]; exact rPart_1t t W H s x y w t0 h hn.1 hn.2 he
    · rw [partN_15 (by decide)]; exact rPart_2t t W H s x y w t0 h hn.1 hn.2 he
    · have tk := hk.klein rfl
      have : t = 1 ∨ t = 2 := by omega
      rcases this with rfl | rfl
      · cases ha : ((y - first H) / H % 2 == 1)
        · rw [show partN 3 W H 1 s x y = 0 by rw [hp]; simp at ha; simp [ha]]
          exact rPart_31a0 W H s x y w h hn.1 hn.2 he ha
        · rw [show partN 3 W H 1 s x y = 6 by rw [hp]; simp at ha; simp [ha]]
          exact rPart_31a1 W H s x y w h hn.1 hn.2 he ha
      · cases ha : ((x - first W) / W % 2 == 1)
        · rw [show partN 3 W H 2 s x y = 0 by rw [hp]; simp at ha; simp [ha]]
          exact rPart_32d0 W H s x y w h hn.1 hn.2 he ha
        · rw [show partN 3 W H 2 s x y = 4 by rw [hp]; simp at ha; simp [ha]]
          exact rPart_32d1 W H s x y w h hn.1 hn.2 he ha
    · obtain rfl : t = 0 := hk.none (by decide) (by decide)
      cases ha : ((y - first H) / H % 2 == 1) <;> cases hd : ((x - first W) / W % 2 == 1)
      · rw [show partN 4 W H 0 s x y = 0 by rw [hp]; simp at ha hd; simp [ha, hd]]
        exact rPart_40a0d0 W H s x y w h hn.1 hn.2 he ha hd
      · rw [show partN 4 W H 0 s x y = 4 by rw [hp]; simp at ha hd; simp [ha, hd]]
        exact rPart_40a0d1 W H s x y w h hn.1 hn.2 he ha hd
      · rw [show partN 4 W H 0 s x y = 6 by rw [hp]; simp at ha hd; simp [ha, hd]]
        exact rPart_40a1d0 W H s x y w h hn.1 hn.2 he ha hd
      · rw [show partN 4 W H 0 s x y = 2 by rw [hp]; simp at ha hd; simp [ha, hd]]
        exact rPart_40a1d1 W H s x y w h hn.1 hn.2 he ha hd
    · rw [partN_15 (by decide)]; exact rPart_5t t W H s x y w t0 h hn.1 hn.2 he
  · have e1 : partN k W H t s x y = 0 := by unfold partN; rw [if_pos he]
    rw [e1]
    exact rPart_e k W H t s x y w t0 he

end Go.Proofs.Ytfdehecekghlmaa
