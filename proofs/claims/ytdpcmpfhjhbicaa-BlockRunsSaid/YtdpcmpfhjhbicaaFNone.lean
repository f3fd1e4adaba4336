/- A field that is none: what its methods answer. -/
import Derived.Test.YtdpcmpfhjhbicaaB0
set_option linter.unusedVariables false
set_option linter.unusedSimpArgs false
namespace Go.Proofs.Ytdpcmpfhjhbicaa
open Go.RowKit

/-- a field that is nil, or that nobody made -/
def NoneAt (q : Option Addr) (w : World) : Prop := q = none ∨ ∃ g, q = some ⟨g, 0, none⟩ ∧ w.heap[g]? = some (.cells #[.int .i64 0, .int .i64 0, .int .i64 0, .bool false, .nilIface] 38 (0, 0))

theorem NoneAt.below {q : Option Addr} {w w' : World} (h : NoneAt q w) (hb : Below w.heap.size w w') : NoneAt q w' := by
  rcases h with rfl | ⟨g, rfl, hg⟩
  · exact .inl rfl
  · exact .inr ⟨g, rfl, bk_below hg hb⟩

theorem none_none {q : Option Addr} {w : World} (h : NoneAt q w) : Calls Try.prog 48 #[.pointer q] w fun e w' => e = .returned (.bool true) ∧ w = w' := by
  rcases h with rfl | ⟨g, rfl, hg⟩
  · go_enter Try.func48, Try.ntmps48
    go_wp2
    go_ret
    exact ⟨rfl, rfl⟩
  · have hc := bk_cell hg
    go_enter Try.func48, Try.ntmps48
    go_wp2
    go_ret
    exact ⟨rfl, rfl⟩
theorem W_none {q : Option Addr} {w : World} (h : NoneAt q w) : Calls Try.prog 53 #[.pointer q] w fun e w' => e = .returned (.int .i64 0) ∧ w = w' := by
  go_enter Try.func53, Try.ntmps53
  go_wp2_with (go_at_call 48; ((with_reducible refine (none_none h).mono ?_); rintro e w' ⟨rfl, rfl⟩))
  go_ret
  exact ⟨rfl, rfl⟩
theorem H_none {q : Option Addr} {w : World} (h : NoneAt q w) : Calls Try.prog 54 #[.pointer q] w fun e w' => e = .returned (.int .i64 0) ∧ w = w' := by
  go_enter Try.func54, Try.ntmps54
  go_wp2_with (go_at_call 48; ((with_reducible refine (none_none h).mono ?_); rintro e w' ⟨rfl, rfl⟩))
  go_ret
  exact ⟨rfl, rfl⟩
theorem States_none {q : Option Addr} {w : World} (h : NoneAt q w) : Calls Try.prog 55 #[.pointer q] w fun e w' => e = .returned (.int .i64 0) ∧ w = w' := by
  go_enter Try.func55, Try.ntmps55
  go_wp2_with (go_at_call 48; ((with_reducible refine (none_none h).mono ?_); rintro e w' ⟨rfl, rfl⟩))
  go_ret
  exact ⟨rfl, rfl⟩
theorem Packed_none {q : Option Addr} {w : World} (h : NoneAt q w) : Calls Try.prog 56 #[.pointer q] w fun e w' => e = .returned (.bool false) ∧ w = w' := by
  go_enter Try.func56, Try.ntmps56
  go_wp2_with (go_at_call 48; ((with_reducible refine (none_none h).mono ?_); rintro e w' ⟨rfl, rfl⟩))
  go_ret
  exact ⟨rfl, rfl⟩
theorem Clear_none {q : Option Addr} {w : World} (h : NoneAt q w) : Calls Try.prog 29 #[.pointer q] w fun e w' => e = .returned (.int .i64 1) ∧ w = w' := by
  go_enter Try.func29, Try.ntmps29
  go_wp2_with (go_at_call 48; ((with_reducible refine (none_none h).mono ?_); rintro e w' ⟨rfl, rfl⟩))
  go_ret
  exact ⟨rfl, rfl⟩
theorem Get_none {q : Option Addr} {w : World} (x y : Int) (h : NoneAt q w) : Calls Try.prog 41 #[.pointer q, .int .i64 x, .int .i64 y] w fun e w' => e = .returned (.tuple #[.int .u8 0, .int .i64 1]) ∧ w = w' := by
  go_enter Try.func41, Try.ntmps41
  go_wp2_with (go_at_call 48; ((with_reducible refine (none_none h).mono ?_); rintro e w' ⟨rfl, rfl⟩))
  go_ret2
  exact ⟨rfl, rfl⟩
theorem Set_none {q : Option Addr} {w : World} (x y s : Int) (h : NoneAt q w) : Calls Try.prog 30 #[.pointer q, .int .i64 x, .int .i64 y, .int .u8 s] w fun e w' => e = .returned (.int .i64 1) ∧ w = w' := by
  go_enter Try.func30, Try.ntmps30
  go_wp2_with (go_at_call 48; ((with_reducible refine (none_none h).mono ?_); rintro e w' ⟨rfl, rfl⟩))
  go_ret
  exact ⟨rfl, rfl⟩
theorem Line_none {q : Option Addr} {w : World} (y : Int) (h : NoneAt q w) : Calls Try.prog 57 #[.pointer q, .int .i64 y] w fun e w' => e = .returned (.tuple #[.slice none 0 0, .int .i64 1]) ∧ w = w' := by
  go_enter Try.func57, Try.ntmps57
  go_wp2_with (go_at_call 48; ((with_reducible refine (none_none h).mono ?_); rintro e w' ⟨rfl, rfl⟩))
  go_ret2
  exact ⟨rfl, rfl⟩
theorem Lay_none {q : Option Addr} {w : World} (y : Int) (l : Value) (h : NoneAt q w) : Calls Try.prog 50 #[.pointer q, .int .i64 y, l] w fun e w' => e = .returned (.int .i64 1) ∧ w = w' := by
  go_enter Try.func50, Try.ntmps50
  go_wp2_with (go_at_call 48; ((with_reducible refine (none_none h).mono ?_); rintro e w' ⟨rfl, rfl⟩))
  go_ret
  exact ⟨rfl, rfl⟩
theorem Clone_none {q : Option Addr} {w : World} (h : NoneAt q w) : Calls Try.prog 45 #[.pointer q] w fun e w' => e = .returned (.pointer none) ∧ w = w' := by
  go_enter Try.func45, Try.ntmps45
  go_wp2_with (go_at_call 48; ((with_reducible refine (none_none h).mono ?_); rintro e w' ⟨rfl, rfl⟩))
  go_ret
  exact ⟨rfl, rfl⟩
theorem living_calls (q : Option Addr) (w : World) : Calls Try.prog 60 #[.pointer q] w fun e w' => e = .returned (.func (.func 70) #[] #[.pointer (some ⟨w.heap.size, 0, none⟩)]) ∧ w' = w.alloc (.cells #[.pointer q] 30) := by
  have hmf : ∀ (fn : Fn) (first cap : Array Value) (w : World), (Instr.makeFunc fn first cap).run Try.prog w = .ok (.func fn first cap) w := fun _ _ _ _ => rfl
  go_enter Try.func60, Try.ntmps60
  go_wp2
  go_ret
  exact ⟨rfl, rfl⟩
end Go.Proofs.Ytdpcmpfhjhbicaa
