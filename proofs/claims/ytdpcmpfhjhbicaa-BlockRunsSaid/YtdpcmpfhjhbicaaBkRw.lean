/- The document's generations: the place of a cell. -/
import Derived.Test.YtdpcmpfhjhbicaaBkUp
import Derived.Test.YtdpcmpfhjhbicaaRfNew
import Derived.BigQuiet
import Derived.Deep.QuietTactic
set_option linter.unusedVariables false
set_option linter.unusedSimpArgs false
namespace Go.Proofs.Ytdpcmpfhjhbicaa
open Go.RowKit Go.Viv

theorem bdrewN2 (w : World) (n : Nat) {B : Nat} (hB : B ≤ w.heap.size) : Below B w (w.drewN n) := ⟨rfl, rfl, rfl, Nat.le_refl _, fun _ _ => rfl⟩
set_option maxRecDepth 20000 in
theorem mod_calls (a n : Int) (w : World) (h : 0 < n) (hn : n ≤ 4611686018427387904) (ha : -9223372036854775808 ≤ a) (ha2 : a ≤ 9223372036854775807) : Calls Try.prog 77 #[.int .i64 a, .int .i64 n] w fun e w' => e = .returned (.int .i64 (a % n)) ∧ w' = w := by
  obtain ⟨b0, b1⟩ := tmod_bd (a := a) h
  have hu := tmod_up (a := a) h
  have hz : (n == 0) = false := by simp; omega
  have hm : (n == -1) = false := by simp; omega
  have e0 := Int.emod_nonneg a (show n ≠ 0 by omega)
  have e1 := Int.emod_lt_of_pos a h
  go_enter Try.func77, Try.ntmps77
  go_wp2
  go_ret
  exact ⟨rfl, rfl⟩

/-- a place's number -/
def plcX (t s u v H : Int) : Int := if H ≤ v ∧ t = 1 then u - s else u
def plcY (t s u v W : Int) : Int := if W ≤ u ∧ t = 2 then v - s else v
def plcE (k W H t s u v : Int) : Int := if k = 1 ∧ (W ≤ u ∨ H ≤ v) then -1 else plcY t s u v W % H * W + plcX t s u v H % W

set_option maxRecDepth 20000 in
set_option maxHeartbeats 4000000 in
theorem rplace_calls (k W H t s u v : Int) (w : World) (w0 : 0 < W) (w1 : W ≤ 65536) (h0 : 0 < H) (h1 : H ≤ 65536) (s0 : -65536 ≤ s) (s1 : s ≤ 65536) (u0 : 0 ≤ u) (u1 : u ≤ W) (v0 : 0 ≤ v) (v1 : v ≤ H) : Calls Try.prog 69 #[topoV k W H t s, .int .i64 u, .int .i64 v] w (Ret (.int .i64 (plcE k W H t s u v)) w) := by
  have KT := bk_new w (.cells #[.int .u8 k, .int .i64 W, .int .i64 H, .int .u8 t, .int .i64 s] 29)
  have hcT := bk_cell KT
  have hB := Lib.hid (boxed w (.cells #[.int .u8 k, .int .i64 W, .int .i64 H, .int .u8 t, .int .i64 s] 29))
  have CX := Lib.hid (fun (a : Int) (w : World) (h : -9223372036854775808 ≤ a) (h2 : a ≤ 9223372036854775807) => mod_calls a W w w0 (by omega) h h2)
  have CY := Lib.hid (fun (a : Int) (w : World) (h : -9223372036854775808 ≤ a) (h2 : a ≤ 9223372036854775807) => mod_calls a H w h0 (by omega) h h2)
  have mb : ∀ a b : Int, 0 ≤ a % H * W + b % W ∧ a % H * W + b % W ≤ 4294967296 ∧ 0 ≤ a % H * W ∧ a % H * W ≤ 4294967296 := fun a b => by
    have := Int.emod_nonneg a (show H ≠ 0 by omega); have := Int.emod_lt_of_pos a h0
    have := Int.emod_nonneg b (show W ≠ 0 by omega); have := Int.emod_lt_of_pos b w0
    have h2 := Int.mul_nonneg (show 0 ≤ a % H by omega) (show 0 ≤ W by omega)
    have h3 := Int.mul_le_mul (show a % H ≤ 65535 by omega) w1 (by omega) (by omega)
    omega
  obtain ⟨a1, a2, a3, a4⟩ := mb v u
  obtain ⟨b1, b2, b3, b4⟩ := mb v (u - s)
  obtain ⟨c1, c2, c3, c4⟩ := mb (v - s) u
  obtain ⟨d1, d2, d3, d4⟩ := mb (v - s) (u - s)
  have HH := Lib.hid (show 0 < W ∧ 0 < H from ⟨w0, h0⟩)
  clear mb
  go_enter Try.func69, Try.ntmps69
  go_wp2_with (first | fail)
  all_goals
    first
      | (go_ret; exact Ret.of (by unfold plcE plcX plcY; repeat' split; all_goals first | rfl | (exfalso; omega)) (boxed _ _))
      | skip
  all_goals
    go_quiet ((first | (go_at_call_of 77 (Value.int IntKind.i64 (v)); exact Calls.quiet_of_same (CY.out _ _ (by omega) (by omega))) | (go_at_call_of 77 (Value.int IntKind.i64 (v - s)); exact Calls.quiet_of_same (CY.out _ _ (by omega) (by omega))) | (go_at_call_of 77 (Value.int IntKind.i64 (u)); exact Calls.quiet_of_same (CX.out _ _ (by omega) (by omega))) | (go_at_call_of 77 (Value.int IntKind.i64 (u - s)); exact Calls.quiet_of_same (CX.out _ _ (by omega) (by omega)))))
    go_wp2
    go_ret
    refine Ret.of ?_ ((boxed _ _).trans (bdrewN2 _ _ (boxed _ _).size))
    simp only [beq_iff_eq, beq_eq_false_iff_ne, ne_eq] at *
    unfold plcE plcX plcY
    repeat' split
    all_goals first | rfl | (exfalso; omega)
end Go.Proofs.Ytdpcmpfhjhbicaa
