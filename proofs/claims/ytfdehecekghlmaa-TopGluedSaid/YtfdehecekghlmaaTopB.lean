/- The walk of TopGlued: its small functions. -/
import Derived.Test.YtfdehecekghlmaaTopA
import Derived.Test.YtfdehecekghlmaaRefEq
import Derived.Test.YtfdehecekghlmaaPartA
set_option linter.unusedVariables false
set_option linter.unusedSimpArgs false
namespace Go.Proofs.Ytfdehecekghlmaa
open Go.RowKit Go.Viv Go.Proofs.Ytfdehecekghlmaa.PFoldRing

def tnear (x y : Int) : Bool := decide ((-1099510579200 ≤ x ∧ x ≤ 1099510579200) ∧ (-1099510579200 ≤ y ∧ y ≤ 1099510579200))
set_option maxHeartbeats 1000000 in
theorem tnear_calls (x y : Int) (w : World) : Calls Try.prog 33 #[pt x y] w (Ret (.bool (tnear x y)) w) := by
  obtain ⟨X, hX⟩ : ∃ X, tnear x y = X := ⟨_, rfl⟩
  rw [hX]
  have HX := Lib.hid hX; clear hX
  go_enter Try.func33, Try.ntmps33
  go_wp2
  all_goals
    go_ret
    refine Ret.of (congrArg Value.bool ?_) (by repeat (first | exact Below.refl _ _ | exact boxed _ _ | refine Below.drew ?_ | refine Below.setCell ?_ (by simp) _ | refine Below.alloc ?_ (by simp) _))
    rw [← HX.out]
    clear HX
    unfold tnear
    rw [Bool.eq_iff_iff]
    simp
    try omega

theorem gl1 (w : World) : Calls Try.prog 12 #[topoV 2 3 2 0 0, pt 2 1] w (Ret (.tuple #[pt (-1) (-1), .int .i64 0]) w) := by
  have h := CellF_calls 2 3 2 0 0 2 1 w (by decide)
  rw [show cellX 2 3 2 0 0 2 1 = -1 by decide, show cellY 2 3 2 0 0 2 1 = -1 by decide, show cellE 2 3 2 0 0 2 1 = 0 by decide] at h
  exact h
set_option maxHeartbeats 1000000 in
theorem glues_calls (w : World) : Calls Try.prog 30 #[] w (Ret (.bool true) w) := by
  go_enter Try.func30, Try.ntmps30
  go_wp2_with (first | fail)
  refine (gl1 _).mono ?_
  rintro e w1 ⟨rfl, hb1⟩
  go_wp2
  go_ret
  exact Ret.of rfl (next hb1 (boxed _ _))

theorem far4_calls (x : Int) (w : World) : Calls Try.prog 66 #[.int .i64 x] w (fun e w' => e = .returned (.bool (!nearI x)) ∧ w' = w) := by
  obtain ⟨X, hX⟩ : ∃ X, (!nearI x) = X := ⟨_, rfl⟩
  rw [hX]
  have HX := Lib.hid hX; clear hX
  go_enter Try.func66, Try.ntmps66
  go_wp2
  all_goals
    go_ret
    refine ⟨congrArg (fun b => Ending.returned (Value.bool b)) ?_, rfl⟩
    rw [← HX.out]
    clear HX
    unfold nearI
    rw [Bool.eq_iff_iff]
    simp
    try omega

set_option maxHeartbeats 2000000 in
theorem rHome_ok (k W H t s : Int) (w : World) (t0 : 0 ≤ t) (h : checkE k W H t s = 0) :
    Calls Try.prog 65 #[topoV k W H t s] w (Ret (.tuple #[rect (first W) (first H) W H, .int .i64 0]) w) := by
  have h0 := topoOk t0 h
  have w0 := h0.w0; have w1_ := h0.w1; have h0_ := h0.h0; have h1_ := h0.h1
  have d1 : W.tdiv 2 = W / 2 := Int.tdiv_eq_ediv_of_nonneg w0
  have d2 : H.tdiv 2 = H / 2 := Int.tdiv_eq_ediv_of_nonneg h0_
  have e1 : first W = -(W / 2) := rfl
  have e2 : first H = -(H / 2) := rfl
  rw [e1, e2]
  clear h0 e1 e2
  have HK := Lib.hid h; clear h
  have K1 : ((w.alloc (.cells #[.int .u8 k, .int .i64 W, .int .i64 H, .int .u8 t, .int .i64 s] 23)).alloc (.cells #[.int .i64 0, .int .i64 0, .int .i64 0, .int .i64 0] 45)).heap[w.heap.size]? = some (.cells #[.int .u8 k, .int .i64 W, .int .i64 H, .int .u8 t, .int .i64 s] 23 (0, 0)) := (bk_alloc (bk_new _ _) _)
  have K2 : ((w.alloc (.cells #[.int .u8 k, .int .i64 W, .int .i64 H, .int .u8 t, .int .i64 s] 23)).alloc (.cells #[.int .i64 0, .int .i64 0, .int .i64 0, .int .i64 0] 45)).heap[w.heap.size + 1]? = some (.cells #[.int .i64 0, .int .i64 0, .int .i64 0, .int .i64 0] 45 (0, 0)) := (by have := bk_new (w.alloc (.cells #[.int .u8 k, .int .i64 W, .int .i64 H, .int .u8 t, .int .i64 s] 23)) (.cells #[.int .i64 0, .int .i64 0, .int .i64 0, .int .i64 0] 45); simpa only [World.size_alloc] using this)
  have hBw : Below w.heap.size w ((w.alloc (.cells #[.int .u8 k, .int .i64 W, .int .i64 H, .int .u8 t, .int .i64 s] 23)).alloc (.cells #[.int .i64 0, .int .i64 0, .int .i64 0, .int .i64 0] 45)) := (boxed _ _).alloc (by simp) _
  go_enter Try.func65, Try.ntmps65
  go_wp2_with (first | fail)
  generalize hW0 : ((w.alloc (.cells #[.int .u8 k, .int .i64 W, .int .i64 H, .int .u8 t, .int .i64 s] 23)).alloc (.cells #[.int .i64 0, .int .i64 0, .int .i64 0, .int .i64 0] 45)) = W0 at *
  clear hW0
  have hB := same W0
  have K10 := K1
  have K20 := K2
  refine (refCheck_calls _ _ _ _ _ _ t0).mono ?_
  rintro e w1 ⟨rfl, hb1⟩
  rw [HK.out]
  replace hB := next hB hb1; replace K1 := bk_below K1 hb1; have hcK1 := bk_cell K1; have hfK1 := bk_free K1; have hlK1 := bk_lt K1; replace K2 := bk_below K2 hb1; have hcK2 := bk_cell K2; have hfK2 := bk_free K2; have hlK2 := bk_lt K2
  go_wp2
  refine end_ct (w.heap.size + 1) 45 rfl rfl rfl Try.underlying45 rfl ?_
  apply Exists.intro
  refine ⟨(by repeat (with_reducible (first | exact K2 | apply bk_set | refine bk_drew ?_ | refine bk_drewN ?_ _ | refine bk_alloc ?_ _ | refine bk_far ?_ (by simp; try omega) _))), by kernel_rfl, ?_⟩
  exact Ret.of rfl (by repeat (with_reducible (first | exact hBw.trans (hB.mono hBw.size) | refine Below.setCell ?_ (by have h1_ := hBw.size; have h2_ := hB.size; (try simp) <;> omega) _ | refine Below.drew ?_ | refine Below.alloc ?_ (by have h1_ := hBw.size; have h2_ := hB.size; (try simp) <;> omega) _)))

set_option maxHeartbeats 4000000 in
theorem rHas_ok (k W H t s x y : Int) (w : World) (t0 : 0 ≤ t) (h : checkE k W H t s = 0) (hx : nearI x = true) (hy : nearI y = true) (hu : W = 0 ∨ (first W ≤ x ∧ x < first W + W)) (hv : H = 0 ∨ (first H ≤ y ∧ y < first H + H)) :
    Calls Try.prog 34 #[topoV k W H t s, pt x y] w (Ret (.tuple #[.bool true, .int .i64 0]) w) := by
  have h0 := topoOk t0 h
  have w0 := h0.w0; have w1_ := h0.w1; have h0_ := h0.h0; have h1_ := h0.h1
  obtain ⟨f1, f2⟩ := first_bounds W w0 w1_
  obtain ⟨f3, f4⟩ := first_bounds H h0_ h1_
  have c1 := fun w => rHome_ok k W H t s w t0 h
  have C1 := Lib.hid c1
  have n1 := fun w => far4_calls x w
  have n2 := fun w => far4_calls y w
  rw [hx] at n1; rw [hy] at n2
  have N1 := Lib.hid n1; have N2 := Lib.hid n2
  clear c1 h h0 n1 n2 hx hy
  generalize first W = fW at *
  generalize first H = fH at *
  have K1 : ((w.alloc (.cells #[.int .u8 k, .int .i64 W, .int .i64 H, .int .u8 t, .int .i64 s] 23)).alloc (.cells #[.int .i64 x, .int .i64 y] 25)).heap[w.heap.size]? = some (.cells #[.int .u8 k, .int .i64 W, .int .i64 H, .int .u8 t, .int .i64 s] 23 (0, 0)) := (bk_alloc (bk_new _ _) _)
  have K2 : ((w.alloc (.cells #[.int .u8 k, .int .i64 W, .int .i64 H, .int .u8 t, .int .i64 s] 23)).alloc (.cells #[.int .i64 x, .int .i64 y] 25)).heap[w.heap.size + 1]? = some (.cells #[.int .i64 x, .int .i64 y] 25 (0, 0)) := (by have := bk_new (w.alloc (.cells #[.int .u8 k, .int .i64 W, .int .i64 H, .int .u8 t, .int .i64 s] 23)) (.cells #[.int .i64 x, .int .i64 y] 25); simpa only [World.size_alloc] using this)
  have hBw : Below w.heap.size w ((w.alloc (.cells #[.int .u8 k, .int .i64 W, .int .i64 H, .int .u8 t, .int .i64 s] 23)).alloc (.cells #[.int .i64 x, .int .i64 y] 25)) := (boxed _ _).alloc (by simp) _
  go_enter Try.func34, Try.ntmps34
  go_wp2_with (first | fail)
  generalize hW0 : ((w.alloc (.cells #[.int .u8 k, .int .i64 W, .int .i64 H, .int .u8 t, .int .i64 s] 23)).alloc (.cells #[.int .i64 x, .int .i64 y] 25)) = W0 at *
  clear hW0
  have hB := same W0
  have K10 := K1
  have K20 := K2
  refine (C1.out _).mono ?_
  rintro e w1 ⟨rfl, hb1⟩
  replace hB := next hB hb1; replace K1 := bk_below K1 hb1; have hcK1 := bk_cell K1; have hfK1 := bk_free K1; have hlK1 := bk_lt K1; replace K2 := bk_below K2 hb1; have hcK2 := bk_cell K2; have hfK2 := bk_free K2; have hlK2 := bk_lt K2
  have KR := bk_new w1 (.cells #[.int .i64 fW, .int .i64 fH, .int .i64 W, .int .i64 H] 45)
  go_wp2_with (first | fail)
  refine (N1.out _).mono ?_
  rintro e w2 ⟨rfl, rfl⟩
  go_wp2_with (first | fail)
  refine (N2.out _).mono ?_
  rintro e w2 ⟨rfl, rfl⟩
  rcases hu with hu | ⟨hu1, hu2⟩ <;> rcases hv with hv | ⟨hv1, hv2⟩
  all_goals
    go_wp2
    all_goals
      go_ret2
      exact Ret.of (by simp_all <;> omega) (by repeat (with_reducible (first | exact hBw.trans (hB.mono hBw.size) | refine Below.setCell ?_ (by have h1_ := hBw.size; have h2_ := hB.size; (try simp) <;> omega) _ | refine Below.drew ?_ | refine Below.alloc ?_ (by have h1_ := hBw.size; have h2_ := hB.size; (try simp) <;> omega) _)))

end Go.Proofs.Ytfdehecekghlmaa
