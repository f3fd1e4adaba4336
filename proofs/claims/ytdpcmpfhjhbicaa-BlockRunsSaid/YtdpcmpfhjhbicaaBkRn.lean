/- Kept: where there is no field; great. -/
import Derived.Test.YtdpcmpfhjhbicaaKept
set_option linter.unusedVariables false
set_option linter.unusedSimpArgs false
namespace Go.Proofs.Ytdpcmpfhjhbicaa
open Go.RowKit

/-- is a law's field too great -/
def greatB (W H : Int) : Bool := decide (0 < W ∧ 0 < H ∧ (2000 < W ∨ 2000 < H ∨ 2000 < W * H))
set_option maxRecDepth 20000 in
set_option maxHeartbeats 2000000 in
theorem great_calls (W H St : Int) (pk : Bool) (v : Value) (w : World) : Calls Try.prog 24 #[.agg #[.int .i64 W, .int .i64 H, .int .i64 St, .bool pk, v]] w (Ret (.bool (greatB W H)) w) := by
  have hB := boxed w (.cells #[.int .i64 W, .int .i64 H, .int .i64 St, .bool pk, v] 59)
  have k0 := bk_cell (bk_new w (.cells #[.int .i64 W, .int .i64 H, .int .i64 St, .bool pk, v] 59))
  by_cases h1 : 0 < W
  rotate_left
  · have e : Hid (greatB W H = false) := by show _ = _; unfold greatB; simp [h1]
    go_enter Try.func24, Try.ntmps24
    go_wp2
    go_ret
    exact Ret.of (by rw [e.out]; rfl) hB
  by_cases h2 : 0 < H
  rotate_left
  · have e : Hid (greatB W H = false) := by show _ = _; unfold greatB; simp [h2]
    go_enter Try.func24, Try.ntmps24
    go_wp2
    go_ret
    exact Ret.of (by rw [e.out]; rfl) hB
  by_cases h3 : 2000 < W
  · have e : Hid (greatB W H = true) := by show _ = _; unfold greatB; simp [h1, h2, h3]
    go_enter Try.func24, Try.ntmps24
    go_wp2
    go_ret
    exact Ret.of (by rw [e.out]; rfl) hB
  by_cases h4 : 2000 < H
  · have e : Hid (greatB W H = true) := by show _ = _; unfold greatB; simp [h1, h2, h4]
    go_enter Try.func24, Try.ntmps24
    go_wp2
    go_ret
    exact Ret.of (by rw [e.out]; rfl) hB
  have m0 := Int.mul_pos h1 h2
  have m1 := Int.mul_le_mul (show W ≤ 2000 by omega) (show H ≤ 2000 by omega) (by omega) (by omega)
  have hg : greatB W H = decide (2000 < W * H) := by unfold greatB; simp [h1, h2, h3, h4]
  have e := Lib.hid hg
  clear hg
  go_enter Try.func24, Try.ntmps24
  go_wp2
  go_ret
  exact Ret.of (by rw [e.out]; rfl) hB

set_option maxHeartbeats 1000000 in
theorem RNew_arg (W H St : Int) (pk : Bool) (w : World) (h : W < 1 ∨ 65536 < W ∨ H < 1 ∨ 65536 < H ∨ St < 2 ∨ 256 < St) :
    Calls Try.prog 49 #[.int .i64 W, .int .i64 H, .int .i64 St, .bool pk] w fun e w' => e = .returned (.tuple #[.pointer none, .int .i64 2]) ∧ w = w' := by
  by_cases h1 : W < 1
  · go_enter Try.func49, Try.ntmps49
    go_wp2
    go_ret2
    exact ⟨rfl, rfl⟩
  by_cases h2 : 65536 < W
  · go_enter Try.func49, Try.ntmps49
    go_wp2
    go_ret2
    exact ⟨rfl, rfl⟩
  by_cases h3 : H < 1
  · go_enter Try.func49, Try.ntmps49
    go_wp2
    go_ret2
    exact ⟨rfl, rfl⟩
  by_cases h4 : 65536 < H
  · go_enter Try.func49, Try.ntmps49
    go_wp2
    go_ret2
    exact ⟨rfl, rfl⟩
  by_cases h5 : St < 2
  · go_enter Try.func49, Try.ntmps49
    go_wp2
    go_ret2
    exact ⟨rfl, rfl⟩
  · have h6 : 256 < St := by omega
    clear h
    go_enter Try.func49, Try.ntmps49
    go_wp2
    go_ret2
    exact ⟨rfl, rfl⟩
set_option maxHeartbeats 1000000 in
theorem RNew_pack (W H St : Int) (w : World) (h1 : 1 ≤ W) (h2 : W ≤ 65536) (h3 : 1 ≤ H) (h4 : H ≤ 65536) (h5 : 2 < St) (h6 : St ≤ 256) :
    Calls Try.prog 49 #[.int .i64 W, .int .i64 H, .int .i64 St, .bool true] w fun e w' => e = .returned (.tuple #[.pointer none, .int .i64 132]) ∧ w = w' := by
  go_enter Try.func49, Try.ntmps49
  go_wp2
  go_ret2
  exact ⟨rfl, rfl⟩
set_option maxHeartbeats 1000000 in
theorem RNew_budget (W H St : Int) (pk : Bool) (w : World) (h1 : 1 ≤ W) (h2 : W ≤ 65536) (h3 : 1 ≤ H) (h4 : H ≤ 65536) (h5 : 2 ≤ St) (h6 : St ≤ 256) (hp : pk = true → St ≤ 2) (hb : 1048576 < W * H) :
    Calls Try.prog 49 #[.int .i64 W, .int .i64 H, .int .i64 St, .bool pk] w fun e w' => e = .returned (.tuple #[.pointer none, .int .i64 4]) ∧ w = w' := by
  have m1 := mul_le_big h1 h2 h3 h4
  cases pk
  · clear hp
    go_enter Try.func49, Try.ntmps49
    go_wp2
    go_ret2
    exact ⟨rfl, rfl⟩
  · have := hp rfl
    clear hp
    go_enter Try.func49, Try.ntmps49
    go_wp2
    go_ret2
    exact ⟨rfl, rfl⟩
/-- neither makes a field of these numbers -/
theorem new_none {W H St : Int} {pk : Bool} (h : newE W H St pk ≠ 0) (w : World) :
    (Calls Try.prog 49 #[.int .i64 W, .int .i64 H, .int .i64 St, .bool pk] w fun e w' => e = .returned (.tuple #[.pointer none, .int .i64 (newE W H St pk)]) ∧ w = w') ∧
      Calls Try.prog 32 #[.int .i64 W, .int .i64 H, .int .i64 St, .bool pk] w fun e w' => e = .returned (.tuple #[.pointer none, .int .i64 (newE W H St pk)]) ∧ w = w' := by
  unfold newE at h ⊢
  by_cases h1 : W < 1 ∨ 65536 < W ∨ H < 1 ∨ 65536 < H ∨ St < 2 ∨ 256 < St
  · rw [if_pos h1]; exact ⟨RNew_arg W H St pk w h1, New_arg W H St pk w h1⟩
  rw [if_neg h1] at h ⊢
  by_cases h2 : pk = true ∧ 2 < St
  · rw [if_pos h2]
    obtain ⟨rfl, h3⟩ := h2
    exact ⟨RNew_pack W H St w (by omega) (by omega) (by omega) (by omega) h3 (by omega), New_pack W H St w (by omega) (by omega) (by omega) (by omega) h3 (by omega)⟩
  rw [if_neg h2] at h ⊢
  by_cases h3 : 1048576 < W * H
  · rw [if_pos h3]
    have hp : pk = true → St ≤ 2 := fun e => by
      by_cases h4 : St ≤ 2
      · exact h4
      · exact absurd ⟨e, by omega⟩ h2
    exact ⟨RNew_budget W H St pk w (by omega) (by omega) (by omega) (by omega) (by omega) (by omega) hp h3, New_budget W H St pk w (by omega) (by omega) (by omega) (by omega) (by omega) (by omega) hp h3⟩
  · rw [if_neg h3] at h; exact absurd rfl h
set_option maxRecDepth 20000 in
set_option maxHeartbeats 2000000 in
/-- where no field may be, Kept.field says so -/
theorem Kept_no {W H St : Int} {pk : Bool} {A : Option Addr} {n c : Nat} (h : newE W H St pk ≠ 0) (w : World) :
    Calls Try.prog 25 #[.agg #[.int .i64 W, .int .i64 H, .int .i64 St, .bool pk, .slice A n c]] w (Ret (.tuple #[.pointer none, .pointer none, .bool true]) w) := by
  have B0 := boxed w (.cells #[.int .i64 W, .int .i64 H, .int .i64 St, .bool pk, .slice A n c] 59)
  have k0 := bk_cell (bk_new w (.cells #[.int .i64 W, .int .i64 H, .int .i64 St, .bool pk, .slice A n c] 59))
  have C1 := Lib.hid fun w => (new_none h w).1
  have C2 := Lib.hid fun w => (new_none h w).2
  have hE : (newE W H St pk != 0) = true := bne_iff_ne.2 h
  have hEE : (newE W H St pk == newE W H St pk) = true := beq_self_eq_true _
  generalize newE W H St pk = E at *
  clear h
  go_enter Try.func25, Try.ntmps25
  go_wp2_with (first | (go_at_call 49; ((with_reducible refine (C1.out _).mono ?_); rintro e w1 ⟨rfl, rfl⟩)) | (go_at_call 32; ((with_reducible refine (C2.out _).mono ?_); rintro e w2 ⟨rfl, rfl⟩)))
  go_ret3
  exact Ret.of rfl B0
end Go.Proofs.Ytdpcmpfhjhbicaa
