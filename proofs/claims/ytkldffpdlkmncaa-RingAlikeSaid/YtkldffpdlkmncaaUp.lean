/- up: numbers out of any numbers. -/
import Derived.Test.YtkldffpdlkmncaaFNew
set_option linter.unusedVariables false
set_option linter.unusedSimpArgs false
namespace Go.Proofs.Ytkldffpdlkmncaa
open Go.RowKit Go.Viv

theorem tmod_bd {a n : Int} (h : 0 < n) : -n < a.tmod n ∧ a.tmod n < n := by
  have := Int.tmod_lt_of_pos a h
  have := Int.lt_tmod_of_pos a h
  omega
theorem tmod_up {a n : Int} (h : 0 < n) : (a.tmod n + n).tmod n = a % n := by
  have hb := tmod_bd (a := a) h
  rw [Int.tmod_eq_emod_of_nonneg (by omega), Int.add_emod_right]
  have e : a.tmod n = a - n * a.tdiv n := by have := Int.mul_tdiv_add_tmod a n; omega
  rw [e, Int.sub_mul_emod_self_left]
set_option maxRecDepth 20000 in
theorem up_calls (a n : Int) (w : World) (h : 0 < n) (hn : n ≤ 4611686018427387904) (ha : -9223372036854775808 ≤ a) (ha2 : a ≤ 9223372036854775807) : Calls Try.prog 49 #[.int .i64 a, .int .i64 n] w fun e w' => e = .returned (.int .i64 (a % n)) ∧ w = w' := by
  obtain ⟨b0, b1⟩ := tmod_bd (a := a) h
  have hu := tmod_up (a := a) h
  have hz : (n == 0) = false := by simp; omega
  have hm : (n == -1) = false := by simp; omega
  have e0 := Int.emod_nonneg a (show n ≠ 0 by omega)
  have e1 := Int.emod_lt_of_pos a h
  go_enter Try.func49, Try.ntmps49
  go_wp2
  go_ret
  exact ⟨rfl, rfl⟩

end Go.Proofs.Ytkldffpdlkmncaa
