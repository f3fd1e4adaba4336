/- What is wrong with a run: the document's answer. -/
import Derived.Test.YtdpcmpfhjhbicaaBkRs
import Derived.Test.YtdpcmpfhjhbicaaRfNew
import Derived.Test.YtdpcmpfhjhbicaaBkUp
set_option linter.unusedVariables false
set_option linter.unusedSimpArgs false
namespace Go.Proofs.Ytdpcmpfhjhbicaa
open Go.RowKit Go.Viv

theorem side_calls (k W H t s : Int) (w : World) : Calls Try.prog 68 #[topoV k W H t s] w (Ret (.int .i64 (if t = 2 then H else W)) w) := by
  have KT := bk_new w (.cells #[.int .u8 k, .int .i64 W, .int .i64 H, .int .u8 t, .int .i64 s] 29)
  have hcT := bk_cell KT
  have hB := boxed w (.cells #[.int .u8 k, .int .i64 W, .int .i64 H, .int .u8 t, .int .i64 s] 29)
  by_cases h : t = 2
  · subst h
    go_enter Try.func68, Try.ntmps68
    go_wp2
    go_ret
    exact Ret.of rfl hB
  · have h2 : (t == 2) = false := beq_eq_false_iff_ne.2 h
    go_enter Try.func68, Try.ntmps68
    go_wp2
    go_ret
    exact Ret.of (by simp [h]) hB

set_option maxRecDepth 20000 in
set_option maxHeartbeats 4000000 in
theorem rCheckT (k W H t s : Int) (w : World) (t0 : 0 ≤ t) (s0 : -9223372036854775808 ≤ s) : Calls Try.prog 51 #[topoV k W H t s] w (Ret (.int .i64 (checkE k W H t s)) w) := by
  have KT := bk_new w (.cells #[.int .u8 k, .int .i64 W, .int .i64 H, .int .u8 t, .int .i64 s] 29)
  have hcT := bk_cell KT
  have hB := boxed w (.cells #[.int .u8 k, .int .i64 W, .int .i64 H, .int .u8 t, .int .i64 s] 29)
  have CS := Lib.hid (fun (k W H t s : Int) w => side_calls k W H t s w)
  go_enter Try.func51, Try.ntmps51
  go_wp2_with (first | (go_at_call 68; ((with_reducible refine (CS.out _ _ _ _ _ _).mono ?_); rintro e w1 ⟨rfl, hb1⟩; have hcT1 := bk_cell (bk_below (bk_new _ _) hb1); have hB1 := next (boxed _ _) hb1)))
  all_goals
    go_ret
    refine Ret.of ?_ (by first | exact hB1 | exact boxed _ _)
    simp only [bne_iff_ne, beq_iff_eq, bne_eq_false_iff_eq, beq_eq_false_iff_ne, ne_eq] at *
    unfold checkE
    repeat' split
    all_goals first | rfl | (exfalso; omega)
end Go.Proofs.Ytdpcmpfhjhbicaa
