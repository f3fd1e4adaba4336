/- The walks of fold's calls, on: the grid without places, glide. -/
import Derived.Test.YtfdehecekghlmaaMd
import Derived.Test.YtfdehecekghlmaaGlueM
set_option linter.unusedVariables false
set_option linter.unusedSimpArgs false
namespace Go.Proofs.Ytfdehecekghlmaa
open Go.RowKit Go.Viv
attribute [local go_sem] run_store_complex run_store_float

set_option maxHeartbeats 4000000 in
theorem of_nil (k W H t s : Int) (w : World) (t0 : 0 ≤ t) (h : checkE k W H t s = 0) :
    Calls Try.prog 36 #[topoV k W H t s, .slice none 0 0] w (Ret (.tuple #[grid k W H t s (first W) (first H), .int .i64 0]) w) := by
  have K1 := ofW_K1 k W H t s w; have K2 := ofW_K2 k W H t s w; have hBw := ofW_B k W H t s w
  unfold ofW at K1 K2 hBw
  have hh := Lib.hid h; clear h
  go_enter Try.func36, Try.ntmps36
  go_wp2_with (first | fail)
  generalize hW0 : (w.alloc (.cells #[.int .u8 k, .int .i64 W, .int .i64 H, .int .u8 t, .int .i64 s] 23)).alloc (.cells #[.int .u8 0, .int .i64 0, .int .i64 0, .int .u8 0, .int .i64 0, .int .i64 0, .int .i64 0] 64) = W0 at *
  clear hW0
  have hB := same W0
  have KS := K1; have KR := K2
  go_wp2_with (first | (go_at_call 21; ((with_reducible refine (Check_calls _ _ _ _ _ _ t0).mono ?_); rintro e w1 ⟨rfl, hb1⟩; replace hB := next hB hb1; replace K1 := bk_below K1 hb1; replace K2 := bk_below K2 hb1; have hc1 := bk_cell K1; have hc2 := bk_cell K2; have hf2 := bk_free K2; rw [hh.out])))
  refine wp_loop_rounds 1 ?_
  rw [rounds_succ]
  go_wp2_with (first | (go_at_call 22; ((with_reducible refine (Home_ok _ _ _ _ _ _ t0 hh.out).mono ?_); rintro e w1 ⟨rfl, hb1⟩; replace hB := next hB hb1; replace K1 := bk_below K1 hb1; replace K2 := bk_below K2 hb1; have hc1 := bk_cell K1; have hc2 := bk_cell K2; have hf2 := bk_free K2; have hl1 := bk_lt K1; have hl2 := bk_lt K2)))
  refine end_ct (w.heap.size + 1) 64 rfl rfl rfl Try.underlying64 rfl ?_
  apply Exists.intro
  refine ⟨(by repeat (with_reducible (first | exact K2 | apply bk_set | refine bk_drew ?_ | refine bk_drewN ?_ _ | refine bk_alloc ?_ _ | refine bk_far ?_ (by simp; try omega) _))), by kernel_rfl, ?_⟩
  exact Ret.of rfl (by repeat (with_reducible (first | exact hBw.trans (hB.mono hBw.size) | refine Below.setCell ?_ (by have h1_ := hBw.size; have h2_ := hB.size; (try simp) <;> omega) _ | refine Below.drew ?_ | refine Below.alloc ?_ (by have h1_ := hBw.size; have h2_ := hB.size; (try simp) <;> omega) _)))

theorem conv_fl (n : Int) (w : World) : (convert 3 85 (.int .i64 n)).run Try.prog w = .ok (.float .f64 (fl n)) w := run_convert_int_float w _ _ _ _ _ (by rw [Try.underlying3]; rfl) Try.underlying85

set_option maxHeartbeats 1000000 in
theorem glide_false (sum by_ : Int) (w : World) :
    Calls Try.prog 57 #[.bool false, .int .i64 sum, .int .i64 by_] w (Ret (isoV 4607182418800017408 0 true (fl by_) (fl sum)) w) := by
  have hcv := conv_fl
  go_enter Try.func57, Try.ntmps57
  go_wp2
  refine end_c (w.heap.size) 41 rfl rfl rfl Try.underlying41 rfl ?_
  exact ⟨_, bk_new _ _, by kernel_rfl, Ret.of rfl (boxed _ _)⟩

set_option maxHeartbeats 1000000 in
theorem glide_true (sum by_ : Int) (w : World) :
    Calls Try.prog 57 #[.bool true, .int .i64 sum, .int .i64 by_] w (Ret (isoV 13830554455654793216 0 true (fl sum) (fl by_)) w) := by
  have hcv := conv_fl
  go_enter Try.func57, Try.ntmps57
  go_wp2
  refine end_c (w.heap.size) 41 rfl rfl rfl Try.underlying41 rfl ?_
  exact ⟨_, bk_new _ _, by kernel_rfl, Ret.of rfl (boxed _ _)⟩

end Go.Proofs.Ytfdehecekghlmaa
