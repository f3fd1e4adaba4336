/- ring: the two ways to hold a state; Check. -/
import Derived.Test.YtkldffpdlkmncaaRgA
set_option linter.unusedVariables false
set_option linter.unusedSimpArgs false
namespace Go.Proofs.Ytkldffpdlkmncaa
open Go.RowKit Go.Viv

theorem hold8_calls (s : Int) (w : World) : Calls Try.prog 41 #[.int .u8 s] w (fun e w' => e = .returned (.int .u8 s) ∧ w' = w) := by
  go_enter Try.func41, Try.ntmps41
  go_wp2
  go_ret
  exact ⟨rfl, rfl⟩
theorem hold1_calls (s : Int) (w : World) : Calls Try.prog 44 #[.int .u8 s] w (fun e w' => e = .returned (.bool (s != 0)) ∧ w' = w) := by
  go_enter Try.func44, Try.ntmps44
  go_wp2
  go_ret
  exact ⟨rfl, rfl⟩
/-- may a frame be? -/
def rgChE (W H : Int) (n : Nat) : Int := if W < 1 ∨ 65536 < W ∨ H < 1 ∨ 65536 < H ∨ 1048576 < W * H ∨ (n : Int) ≠ (W + 2) * (H + 2) then 140 else 0
set_option maxRecDepth 20000 in
set_option maxHeartbeats 2000000 in
theorem rgCheck_calls (W H : Int) (A : Option Addr) (n c : Nat) (w : World) : Calls Try.prog 15 #[.agg #[.int .i64 W, .int .i64 H, .slice A n c]] w (Ret (.int .i64 (rgChE W H n)) w) := by
  have hc := bk_cell (bk_new w (.cells #[.int .i64 W, .int .i64 H, .slice A n c] 34))
  have hB := Lib.hid (boxed w (.cells #[.int .i64 W, .int .i64 H, .slice A n c] 34))
  by_cases hin : 1 ≤ W ∧ W ≤ 65536 ∧ 1 ≤ H ∧ H ≤ 65536
  · obtain ⟨a1, a2, a3, a4⟩ := hin
    have m1 : 0 < W * H := Int.mul_pos (by omega) (by omega)
    have m2 : W * H ≤ 65536 * 65536 := Int.mul_le_mul a2 a4 (by omega) (by omega)
    have m3 : 0 < (W + 2) * (H + 2) := Int.mul_pos (by omega) (by omega)
    have m4 : (W + 2) * (H + 2) ≤ 65538 * 65538 := Int.mul_le_mul (by omega) (by omega) (by omega) (by omega)
    have w1 : IntKind.i64.wrap (W * H) = W * H := by rw [IntKind.wrap_i64]; omega
    have w2 : IntKind.i64.wrap (W + 2) = W + 2 := by rw [IntKind.wrap_i64]; omega
    have w3 : IntKind.i64.wrap (H + 2) = H + 2 := by rw [IntKind.wrap_i64]; omega
    have w4 : IntKind.i64.wrap ((W + 2) * (H + 2)) = (W + 2) * (H + 2) := by rw [IntKind.wrap_i64]; omega
    go_enter Try.func15, Try.ntmps15
    go_wp2
    all_goals
      go_ret
      refine Ret.of ?_ hB.out
      show Value.int .i64 _ = _
      congr 1
      unfold rgChE
      generalize W * H = P at *
      generalize (W + 2) * (H + 2) = Q at *
      simp only [beq_iff_eq, beq_eq_false_iff_ne, ne_eq, bne_iff_ne, bne_eq_false_iff_eq, Bool.and_eq_true, Bool.or_eq_true, Bool.not_eq_true', Bool.not_eq_false', decide_eq_true_eq, decide_eq_false_iff_not, Bool.and_eq_false_iff, Bool.or_eq_false_iff] at *
      (repeat' split) <;> omega
  · have he : Hid (rgChE W H n = 140) := by
      show _ = _
      unfold rgChE
      rw [if_pos (by omega)]
    have hh : Hid (¬ (1 ≤ W ∧ W ≤ 65536 ∧ 1 ≤ H ∧ H ≤ 65536)) := hin
    clear hin
    go_enter Try.func15, Try.ntmps15
    go_wp2
    all_goals
      go_ret
      refine Ret.of ?_ hB.out
      show Value.int .i64 _ = _
      first
        | (rw [he.out]; done)
        | (exfalso; refine hh.out ?_; simp only [beq_iff_eq, beq_eq_false_iff_ne, ne_eq, bne_iff_ne, bne_eq_false_iff_eq, Bool.and_eq_true, Bool.or_eq_true, Bool.not_eq_true', Bool.not_eq_false', decide_eq_true_eq, decide_eq_false_iff_not, Bool.and_eq_false_iff, Bool.or_eq_false_iff] at *; omega)
end Go.Proofs.Ytkldffpdlkmncaa
