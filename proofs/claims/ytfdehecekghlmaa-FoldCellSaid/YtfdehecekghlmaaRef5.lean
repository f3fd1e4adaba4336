/- The walks of the document's linear parts (vivariumref05), at the four maps that the fold chapter asks of. -/
import Derived.Test.YtfdehecekghlmaaPartM
import Derived.Test.YtfdehecekghlmaaGlueA
set_option linter.unusedVariables false
set_option linter.unusedSimpArgs false
namespace Go.Proofs.Ytfdehecekghlmaa
open Go.RowKit Go.Viv
attribute [local go_sem] run_store_complex run_store_float

set_option maxHeartbeats 1000000 in
theorem Turn5_0 (w : World) : Calls Try.prog 88 #[.int .i64 0] w (Ret (.complex .f64 4607182418800017408 0) w) := by
  go_enter Try.func88, Try.ntmps88
  go_wp2
  go_ret
  exact Ret.of rfl (by repeat (first | exact Below.refl _ _ | exact boxed _ _ | refine Below.drew ?_ | refine Below.setCell ?_ (by simp) _ | refine Below.alloc ?_ (by simp) _))

set_option maxHeartbeats 1000000 in
theorem Turn5_1 (w : World) : Calls Try.prog 88 #[.int .i64 1] w (Ret (.complex .f64 0 4607182418800017408) w) := by
  go_enter Try.func88, Try.ntmps88
  go_wp2
  go_ret
  exact Ret.of rfl (by repeat (first | exact Below.refl _ _ | exact boxed _ _ | refine Below.drew ?_ | refine Below.setCell ?_ (by simp) _ | refine Below.alloc ?_ (by simp) _))

set_option maxHeartbeats 1000000 in
theorem Turn5_2 (w : World) : Calls Try.prog 88 #[.int .i64 2] w (Ret (.complex .f64 13830554455654793216 0) w) := by
  go_enter Try.func88, Try.ntmps88
  go_wp2
  go_ret
  exact Ret.of rfl (by repeat (first | exact Below.refl _ _ | exact boxed _ _ | refine Below.drew ?_ | refine Below.setCell ?_ (by simp) _ | refine Below.alloc ?_ (by simp) _))

theorem o_pp : F64.order 4607182418800017408 4607182418800017408 = some .eq := ord isW_one isW_one
theorem o_zz : F64.order 0 0 = some .eq := ord isW_zero isW_zero
theorem o_np : F64.order 13830554455654793216 4607182418800017408 = some .lt := ord isW_neg isW_one
theorem o_nz : F64.order 13830554455654793216 0 = some .lt := ord isW_neg isW_zero
theorem o_nn : F64.order 13830554455654793216 13830554455654793216 = some .eq := ord isW_neg isW_neg
theorem o_zp : F64.order 0 4607182418800017408 = some .lt := ord isW_zero isW_one
theorem o_pz : F64.order 4607182418800017408 0 = some .gt := ord isW_one isW_zero
theorem o_zf1 : F64.order 0 14010698440749613056 = some .gt := ord isW_zero isW_far1
theorem o_zf2 : F64.order 0 4787326403894837248 = some .lt := ord isW_zero isW_far2

set_option maxHeartbeats 1000000 in
theorem quarters5_p (w : World) : Calls Try.prog 85 #[.complex .f64 4607182418800017408 0] w (Ret (.int .i64 0) w) := by
  have r1 := o_pp; have r2 := o_zz
  go_enter Try.func85, Try.ntmps85
  go_wp2_with (first | fail)
  refine wp_loop_rounds 1 ?_
  rw [rounds_succ]; go_wp2_with (first | (go_at_call 88; ((with_reducible refine (Turn5_0 _).mono ?_); rintro e w1 ⟨rfl, hb1⟩)))
  go_ret
  exact Ret.of rfl hb1

set_option maxHeartbeats 1000000 in
theorem quarters5_n (w : World) : Calls Try.prog 85 #[.complex .f64 13830554455654793216 0] w (Ret (.int .i64 2) w) := by
  have r1 := o_np; have r2 := o_zz; have r3 := o_nz; have r4 := o_nn; have r5 := o_zp
  go_enter Try.func85, Try.ntmps85
  go_wp2_with (first | fail)
  refine wp_loop_rounds 3 ?_
  rw [rounds_succ]; go_wp2_with (first | (go_at_call 88; ((with_reducible refine (Turn5_0 _).mono ?_); rintro e w1 ⟨rfl, hb1⟩)))
  rw [rounds_succ]; go_wp2_with (first | (go_at_call 88; ((with_reducible refine (Turn5_1 _).mono ?_); rintro e w2 ⟨rfl, hb2⟩)))
  rw [rounds_succ]; go_wp2_with (first | (go_at_call 88; ((with_reducible refine (Turn5_2 _).mono ?_); rintro e w3 ⟨rfl, hb3⟩)))
  go_ret
  exact Ret.of rfl (next (next hb1 hb2) hb3)

set_option maxHeartbeats 1000000 in
theorem whole5_0 (w : World) : Calls Try.prog 86 #[.float .f64 0] w (Ret (.tuple #[.int .i64 0, .bool true]) w) := by
  have r1 := o_zf1; have r2 := o_zf2; have r3 := o_zz
  have hcv : ∀ w, (convert 85 3 (.float .f64 0)).run Try.prog w = .ok (.int .i64 0) w := fun w => run_convert_float_int w _ _ _ _ _ _ (by rw [Try.underlying85]; rfl) Try.underlying3 (toIntVal isW_zero (by omega) (by omega))
  have hcw : ∀ w, (convert 3 85 (.int .i64 0)).run Try.prog w = .ok (.float .f64 0) w := fun w => (conv_fl 0 w).trans (by rw [fl_zero])
  go_enter Try.func86, Try.ntmps86
  go_wp2
  go_ret2
  exact Ret.of rfl (same _)

set_option maxHeartbeats 2000000 in
theorem parts5_a (w : World) : Calls Try.prog 77 #[isoV 4607182418800017408 0 false 0 0] w (Ret (.tuple #[.int .i64 0, .int .i64 0, .int .i64 0, .bool true]) w) := by
  have K1 : (w.alloc (.cells #[.complex .f64 4607182418800017408 0, .bool false, .complex .f64 0 0] 41)).heap[w.heap.size]? = some (.cells #[.complex .f64 4607182418800017408 0, .bool false, .complex .f64 0 0] 41 (0, 0)) := (bk_new _ _)
  have hBw : Below w.heap.size w (w.alloc (.cells #[.complex .f64 4607182418800017408 0, .bool false, .complex .f64 0 0] 41)) := boxed _ _
  go_enter Try.func77, Try.ntmps77
  go_wp2_with (first | fail)
  generalize hW0 : (w.alloc (.cells #[.complex .f64 4607182418800017408 0, .bool false, .complex .f64 0 0] 41)) = W0 at *
  clear hW0
  have hB := same W0
  have K10 := K1
  refine (quarters5_p _).mono ?_
  rintro e w1 ⟨rfl, hb1⟩
  replace hB := next hB hb1; replace K1 := bk_below K1 hb1; have hcK1 := bk_cell K1; have hfK1 := bk_free K1; have hlK1 := bk_lt K1
  go_wp2_with (first | fail)
  refine (whole5_0 _).mono ?_
  rintro e w1 ⟨rfl, hb1⟩
  replace hB := next hB hb1; replace K1 := bk_below K1 hb1; have hcK1 := bk_cell K1; have hfK1 := bk_free K1; have hlK1 := bk_lt K1
  go_wp2_with (first | fail)
  refine (whole5_0 _).mono ?_
  rintro e w1 ⟨rfl, hb1⟩
  replace hB := next hB hb1; replace K1 := bk_below K1 hb1; have hcK1 := bk_cell K1; have hfK1 := bk_free K1; have hlK1 := bk_lt K1
  go_wp2_with (first | fail)
  refine bodyPost_ret (v := .tuple #[.int .i64 0, .int .i64 0, .int .i64 0, .bool true]) (by simp [results, Try.results77, go_sem]) rfl ?_
  exact Ret.of rfl (by repeat (with_reducible (first | exact hBw.trans (hB.mono hBw.size) | refine Below.setCell ?_ (by have h1_ := hBw.size; have h2_ := hB.size; (try simp) <;> omega) _ | refine Below.drew ?_ | refine Below.alloc ?_ (by have h1_ := hBw.size; have h2_ := hB.size; (try simp) <;> omega) _)))

set_option maxHeartbeats 2000000 in
theorem Which5_a (w : World) : Calls Try.prog 48 #[isoV 4607182418800017408 0 false 0 0] w (Ret (.tuple #[.int .i64 0, .int .i64 0]) w) := by
  have K1 : (w.alloc (.cells #[.complex .f64 4607182418800017408 0, .bool false, .complex .f64 0 0] 41)).heap[w.heap.size]? = some (.cells #[.complex .f64 4607182418800017408 0, .bool false, .complex .f64 0 0] 41 (0, 0)) := (bk_new _ _)
  have hBw : Below w.heap.size w (w.alloc (.cells #[.complex .f64 4607182418800017408 0, .bool false, .complex .f64 0 0] 41)) := boxed _ _
  go_enter Try.func48, Try.ntmps48
  go_wp2_with (first | fail)
  generalize hW0 : (w.alloc (.cells #[.complex .f64 4607182418800017408 0, .bool false, .complex .f64 0 0] 41)) = W0 at *
  clear hW0
  have hB := same W0
  have K10 := K1
  refine (parts5_a _).mono ?_
  rintro e w1 ⟨rfl, hb1⟩
  replace hB := next hB hb1; replace K1 := bk_below K1 hb1; have hcK1 := bk_cell K1; have hfK1 := bk_free K1; have hlK1 := bk_lt K1
  go_wp2_with (first | fail)
  go_ret2
  exact Ret.of rfl (by repeat (with_reducible (first | exact hBw.trans (hB.mono hBw.size) | refine Below.setCell ?_ (by have h1_ := hBw.size; have h2_ := hB.size; (try simp) <;> omega) _ | refine Below.drew ?_ | refine Below.alloc ?_ (by have h1_ := hBw.size; have h2_ := hB.size; (try simp) <;> omega) _)))

set_option maxHeartbeats 2000000 in
theorem parts5_b (w : World) : Calls Try.prog 77 #[isoV 13830554455654793216 0 false 0 0] w (Ret (.tuple #[.int .i64 2, .int .i64 0, .int .i64 0, .bool true]) w) := by
  have K1 : (w.alloc (.cells #[.complex .f64 13830554455654793216 0, .bool false, .complex .f64 0 0] 41)).heap[w.heap.size]? = some (.cells #[.complex .f64 13830554455654793216 0, .bool false, .complex .f64 0 0] 41 (0, 0)) := (bk_new _ _)
  have hBw : Below w.heap.size w (w.alloc (.cells #[.complex .f64 13830554455654793216 0, .bool false, .complex .f64 0 0] 41)) := boxed _ _
  go_enter Try.func77, Try.ntmps77
  go_wp2_with (first | fail)
  generalize hW0 : (w.alloc (.cells #[.complex .f64 13830554455654793216 0, .bool false, .complex .f64 0 0] 41)) = W0 at *
  clear hW0
  have hB := same W0
  have K10 := K1
  refine (quarters5_n _).mono ?_
  rintro e w1 ⟨rfl, hb1⟩
  replace hB := next hB hb1; replace K1 := bk_below K1 hb1; have hcK1 := bk_cell K1; have hfK1 := bk_free K1; have hlK1 := bk_lt K1
  go_wp2_with (first | fail)
  refine (whole5_0 _).mono ?_
  rintro e w1 ⟨rfl, hb1⟩
  replace hB := next hB hb1; replace K1 := bk_below K1 hb1; have hcK1 := bk_cell K1; have hfK1 := bk_free K1; have hlK1 := bk_lt K1
  go_wp2_with (first | fail)
  refine (whole5_0 _).mono ?_
  rintro e w1 ⟨rfl, hb1⟩
  replace hB := next hB hb1; replace K1 := bk_below K1 hb1; have hcK1 := bk_cell K1; have hfK1 := bk_free K1; have hlK1 := bk_lt K1
  go_wp2_with (first | fail)
  refine bodyPost_ret (v := .tuple #[.int .i64 2, .int .i64 0, .int .i64 0, .bool true]) (by simp [results, Try.results77, go_sem]) rfl ?_
  exact Ret.of rfl (by repeat (with_reducible (first | exact hBw.trans (hB.mono hBw.size) | refine Below.setCell ?_ (by have h1_ := hBw.size; have h2_ := hB.size; (try simp) <;> omega) _ | refine Below.drew ?_ | refine Below.alloc ?_ (by have h1_ := hBw.size; have h2_ := hB.size; (try simp) <;> omega) _)))

set_option maxHeartbeats 2000000 in
theorem Which5_b (w : World) : Calls Try.prog 48 #[isoV 13830554455654793216 0 false 0 0] w (Ret (.tuple #[.int .i64 2, .int .i64 0]) w) := by
  have K1 : (w.alloc (.cells #[.complex .f64 13830554455654793216 0, .bool false, .complex .f64 0 0] 41)).heap[w.heap.size]? = some (.cells #[.complex .f64 13830554455654793216 0, .bool false, .complex .f64 0 0] 41 (0, 0)) := (bk_new _ _)
  have hBw : Below w.heap.size w (w.alloc (.cells #[.complex .f64 13830554455654793216 0, .bool false, .complex .f64 0 0] 41)) := boxed _ _
  go_enter Try.func48, Try.ntmps48
  go_wp2_with (first | fail)
  generalize hW0 : (w.alloc (.cells #[.complex .f64 13830554455654793216 0, .bool false, .complex .f64 0 0] 41)) = W0 at *
  clear hW0
  have hB := same W0
  have K10 := K1
  refine (parts5_b _).mono ?_
  rintro e w1 ⟨rfl, hb1⟩
  replace hB := next hB hb1; replace K1 := bk_below K1 hb1; have hcK1 := bk_cell K1; have hfK1 := bk_free K1; have hlK1 := bk_lt K1
  go_wp2_with (first | fail)
  go_ret2
  exact Ret.of rfl (by repeat (with_reducible (first | exact hBw.trans (hB.mono hBw.size) | refine Below.setCell ?_ (by have h1_ := hBw.size; have h2_ := hB.size; (try simp) <;> omega) _ | refine Below.drew ?_ | refine Below.alloc ?_ (by have h1_ := hBw.size; have h2_ := hB.size; (try simp) <;> omega) _)))

set_option maxHeartbeats 2000000 in
theorem parts5_c (w : World) : Calls Try.prog 77 #[isoV 13830554455654793216 0 true 0 0] w (Ret (.tuple #[.int .i64 6, .int .i64 0, .int .i64 0, .bool true]) w) := by
  have K1 : (w.alloc (.cells #[.complex .f64 13830554455654793216 0, .bool true, .complex .f64 0 0] 41)).heap[w.heap.size]? = some (.cells #[.complex .f64 13830554455654793216 0, .bool true, .complex .f64 0 0] 41 (0, 0)) := (bk_new _ _)
  have hBw : Below w.heap.size w (w.alloc (.cells #[.complex .f64 13830554455654793216 0, .bool true, .complex .f64 0 0] 41)) := boxed _ _
  go_enter Try.func77, Try.ntmps77
  go_wp2_with (first | fail)
  generalize hW0 : (w.alloc (.cells #[.complex .f64 13830554455654793216 0, .bool true, .complex .f64 0 0] 41)) = W0 at *
  clear hW0
  have hB := same W0
  have K10 := K1
  refine (quarters5_n _).mono ?_
  rintro e w1 ⟨rfl, hb1⟩
  replace hB := next hB hb1; replace K1 := bk_below K1 hb1; have hcK1 := bk_cell K1; have hfK1 := bk_free K1; have hlK1 := bk_lt K1
  go_wp2_with (first | fail)
  refine (whole5_0 _).mono ?_
  rintro e w1 ⟨rfl, hb1⟩
  replace hB := next hB hb1; replace K1 := bk_below K1 hb1; have hcK1 := bk_cell K1; have hfK1 := bk_free K1; have hlK1 := bk_lt K1
  go_wp2_with (first | fail)
  refine (whole5_0 _).mono ?_
  rintro e w1 ⟨rfl, hb1⟩
  replace hB := next hB hb1; replace K1 := bk_below K1 hb1; have hcK1 := bk_cell K1; have hfK1 := bk_free K1; have hlK1 := bk_lt K1
  go_wp2_with (first | fail)
  refine bodyPost_ret (v := .tuple #[.int .i64 6, .int .i64 0, .int .i64 0, .bool true]) (by simp [results, Try.results77, go_sem]) rfl ?_
  exact Ret.of rfl (by repeat (with_reducible (first | exact hBw.trans (hB.mono hBw.size) | refine Below.setCell ?_ (by have h1_ := hBw.size; have h2_ := hB.size; (try simp) <;> omega) _ | refine Below.drew ?_ | refine Below.alloc ?_ (by have h1_ := hBw.size; have h2_ := hB.size; (try simp) <;> omega) _)))

set_option maxHeartbeats 2000000 in
theorem Which5_c (w : World) : Calls Try.prog 48 #[isoV 13830554455654793216 0 true 0 0] w (Ret (.tuple #[.int .i64 6, .int .i64 0]) w) := by
  have K1 : (w.alloc (.cells #[.complex .f64 13830554455654793216 0, .bool true, .complex .f64 0 0] 41)).heap[w.heap.size]? = some (.cells #[.complex .f64 13830554455654793216 0, .bool true, .complex .f64 0 0] 41 (0, 0)) := (bk_new _ _)
  have hBw : Below w.heap.size w (w.alloc (.cells #[.complex .f64 13830554455654793216 0, .bool true, .complex .f64 0 0] 41)) := boxed _ _
  go_enter Try.func48, Try.ntmps48
  go_wp2_with (first | fail)
  generalize hW0 : (w.alloc (.cells #[.complex .f64 13830554455654793216 0, .bool true, .complex .f64 0 0] 41)) = W0 at *
  clear hW0
  have hB := same W0
  have K10 := K1
  refine (parts5_c _).mono ?_
  rintro e w1 ⟨rfl, hb1⟩
  replace hB := next hB hb1; replace K1 := bk_below K1 hb1; have hcK1 := bk_cell K1; have hfK1 := bk_free K1; have hlK1 := bk_lt K1
  go_wp2_with (first | fail)
  go_ret2
  exact Ret.of rfl (by repeat (with_reducible (first | exact hBw.trans (hB.mono hBw.size) | refine Below.setCell ?_ (by have h1_ := hBw.size; have h2_ := hB.size; (try simp) <;> omega) _ | refine Below.drew ?_ | refine Below.alloc ?_ (by have h1_ := hBw.size; have h2_ := hB.size; (try simp) <;> omega) _)))

set_option maxHeartbeats 2000000 in
theorem parts5_d (w : World) : Calls Try.prog 77 #[isoV 4607182418800017408 0 true 0 0] w (Ret (.tuple #[.int .i64 4, .int .i64 0, .int .i64 0, .bool true]) w) := by
  have K1 : (w.alloc (.cells #[.complex .f64 4607182418800017408 0, .bool true, .complex .f64 0 0] 41)).heap[w.heap.size]? = some (.cells #[.complex .f64 4607182418800017408 0, .bool true, .complex .f64 0 0] 41 (0, 0)) := (bk_new _ _)
  have hBw : Below w.heap.size w (w.alloc (.cells #[.complex .f64 4607182418800017408 0, .bool true, .complex .f64 0 0] 41)) := boxed _ _
  go_enter Try.func77, Try.ntmps77
  go_wp2_with (first | fail)
  generalize hW0 : (w.alloc (.cells #[.complex .f64 4607182418800017408 0, .bool true, .complex .f64 0 0] 41)) = W0 at *
  clear hW0
  have hB := same W0
  have K10 := K1
  refine (quarters5_p _).mono ?_
  rintro e w1 ⟨rfl, hb1⟩
  replace hB := next hB hb1; replace K1 := bk_below K1 hb1; have hcK1 := bk_cell K1; have hfK1 := bk_free K1; have hlK1 := bk_lt K1
  go_wp2_with (first | fail)
  refine (whole5_0 _).mono ?_
  rintro e w1 ⟨rfl, hb1⟩
  replace hB := next hB hb1; replace K1 := bk_below K1 hb1; have hcK1 := bk_cell K1; have hfK1 := bk_free K1; have hlK1 := bk_lt K1
  go_wp2_with (first | fail)
  refine (whole5_0 _).mono ?_
  rintro e w1 ⟨rfl, hb1⟩
  replace hB := next hB hb1; replace K1 := bk_below K1 hb1; have hcK1 := bk_cell K1; have hfK1 := bk_free K1; have hlK1 := bk_lt K1
  go_wp2_with (first | fail)
  refine bodyPost_ret (v := .tuple #[.int .i64 4, .int .i64 0, .int .i64 0, .bool true]) (by simp [results, Try.results77, go_sem]) rfl ?_
  exact Ret.of rfl (by repeat (with_reducible (first | exact hBw.trans (hB.mono hBw.size) | refine Below.setCell ?_ (by have h1_ := hBw.size; have h2_ := hB.size; (try simp) <;> omega) _ | refine Below.drew ?_ | refine Below.alloc ?_ (by have h1_ := hBw.size; have h2_ := hB.size; (try simp) <;> omega) _)))

set_option maxHeartbeats 2000000 in
theorem Which5_d (w : World) : Calls Try.prog 48 #[isoV 4607182418800017408 0 true 0 0] w (Ret (.tuple #[.int .i64 4, .int .i64 0]) w) := by
  have K1 : (w.alloc (.cells #[.complex .f64 4607182418800017408 0, .bool true, .complex .f64 0 0] 41)).heap[w.heap.size]? = some (.cells #[.complex .f64 4607182418800017408 0, .bool true, .complex .f64 0 0] 41 (0, 0)) := (bk_new _ _)
  have hBw : Below w.heap.size w (w.alloc (.cells #[.complex .f64 4607182418800017408 0, .bool true, .complex .f64 0 0] 41)) := boxed _ _
  go_enter Try.func48, Try.ntmps48
  go_wp2_with (first | fail)
  generalize hW0 : (w.alloc (.cells #[.complex .f64 4607182418800017408 0, .bool true, .complex .f64 0 0] 41)) = W0 at *
  clear hW0
  have hB := same W0
  have K10 := K1
  refine (parts5_d _).mono ?_
  rintro e w1 ⟨rfl, hb1⟩
  replace hB := next hB hb1; replace K1 := bk_below K1 hb1; have hcK1 := bk_cell K1; have hfK1 := bk_free K1; have hlK1 := bk_lt K1
  go_wp2_with (first | fail)
  go_ret2
  exact Ret.of rfl (by repeat (with_reducible (first | exact hBw.trans (hB.mono hBw.size) | refine Below.setCell ?_ (by have h1_ := hBw.size; have h2_ := hB.size; (try simp) <;> omega) _ | refine Below.drew ?_ | refine Below.alloc ?_ (by have h1_ := hBw.size; have h2_ := hB.size; (try simp) <;> omega) _)))

end Go.Proofs.Ytfdehecekghlmaa
