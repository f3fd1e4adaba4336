/- A field that is none: what its methods answer. -/
import Derived.Test.YtkldffpdlkmncaaB0
set_option linter.unusedVariables false
set_option linter.unusedSimpArgs false
namespace Go.Proofs.Ytkldffpdlkmncaa
open Go.RowKit

/-- a field that is nil, or that nobody made -/
def NoneAt (q : Option Addr) (w : World) : Prop := q = none ∨ ∃ g, q = some ⟨g, 0, none⟩ ∧ w.heap[g]? = some (.cells #[.int .i64 0, .int .i64 0, .int .i64 0, .bool false, .nilIface] 31 (0, 0))

theorem NoneAt.below {q : Option Addr} {w w' : World} (h : NoneAt q w) (hb : Below w.heap.size w w') : NoneAt q w' := by
  rcases h with rfl | ⟨g, rfl, hg⟩
  · exact .inl rfl
  · exact .inr ⟨g, rfl, bk_below hg hb⟩

theorem none_none {q : Option Addr} {w : World} (h : NoneAt q w) : Calls Try.prog 54 #[.pointer q] w fun e w' => e = .returned (.bool true) ∧ w = w' := by
  rcases h with rfl | ⟨g, rfl, hg⟩
  · go_enter Try.func54, Try.ntmps54
    go_wp2
    go_ret
    exact ⟨rfl, rfl⟩
  · have hc := bk_cell hg
    go_enter Try.func54, Try.ntmps54
    go_wp2
    go_ret
    exact ⟨rfl, rfl⟩
theorem W_none {q : Option Addr} {w : World} (h : NoneAt q w) : Calls Try.prog 62 #[.pointer q] w fun e w' => e = .returned (.int .i64 0) ∧ w = w' := by
  go_enter Try.func62, Try.ntmps62
  go_wp2_with (go_at_call 54; ((with_reducible refine (none_none h).mono ?_); rintro e w' ⟨rfl, rfl⟩))
  go_ret
  exact ⟨rfl, rfl⟩
theorem H_none {q : Option Addr} {w : World} (h : NoneAt q w) : Calls Try.prog 63 #[.pointer q] w fun e w' => e = .returned (.int .i64 0) ∧ w = w' := by
  go_enter Try.func63, Try.ntmps63
  go_wp2_with (go_at_call 54; ((with_reducible refine (none_none h).mono ?_); rintro e w' ⟨rfl, rfl⟩))
  go_ret
  exact ⟨rfl, rfl⟩
theorem States_none {q : Option Addr} {w : World} (h : NoneAt q w) : Calls Try.prog 42 #[.pointer q] w fun e w' => e = .returned (.int .i64 0) ∧ w = w' := by
  go_enter Try.func42, Try.ntmps42
  go_wp2_with (go_at_call 54; ((with_reducible refine (none_none h).mono ?_); rintro e w' ⟨rfl, rfl⟩))
  go_ret
  exact ⟨rfl, rfl⟩
theorem Packed_none {q : Option Addr} {w : World} (h : NoneAt q w) : Calls Try.prog 64 #[.pointer q] w fun e w' => e = .returned (.bool false) ∧ w = w' := by
  go_enter Try.func64, Try.ntmps64
  go_wp2_with (go_at_call 54; ((with_reducible refine (none_none h).mono ?_); rintro e w' ⟨rfl, rfl⟩))
  go_ret
  exact ⟨rfl, rfl⟩
theorem Get_none {q : Option Addr} {w : World} (x y : Int) (h : NoneAt q w) : Calls Try.prog 24 #[.pointer q, .int .i64 x, .int .i64 y] w fun e w' => e = .returned (.tuple #[.int .u8 0, .int .i64 1]) ∧ w = w' := by
  go_enter Try.func24, Try.ntmps24
  go_wp2_with (go_at_call 54; ((with_reducible refine (none_none h).mono ?_); rintro e w' ⟨rfl, rfl⟩))
  go_ret2
  exact ⟨rfl, rfl⟩
theorem Set_none {q : Option Addr} {w : World} (x y s : Int) (h : NoneAt q w) : Calls Try.prog 27 #[.pointer q, .int .i64 x, .int .i64 y, .int .u8 s] w fun e w' => e = .returned (.int .i64 1) ∧ w = w' := by
  go_enter Try.func27, Try.ntmps27
  go_wp2_with (go_at_call 54; ((with_reducible refine (none_none h).mono ?_); rintro e w' ⟨rfl, rfl⟩))
  go_ret
  exact ⟨rfl, rfl⟩
theorem Line_none {q : Option Addr} {w : World} (y : Int) (h : NoneAt q w) : Calls Try.prog 61 #[.pointer q, .int .i64 y] w fun e w' => e = .returned (.tuple #[.slice none 0 0, .int .i64 1]) ∧ w = w' := by
  go_enter Try.func61, Try.ntmps61
  go_wp2_with (go_at_call 54; ((with_reducible refine (none_none h).mono ?_); rintro e w' ⟨rfl, rfl⟩))
  go_ret2
  exact ⟨rfl, rfl⟩
theorem Lay_none {q : Option Addr} {w : World} (y : Int) (l : Value) (h : NoneAt q w) : Calls Try.prog 38 #[.pointer q, .int .i64 y, l] w fun e w' => e = .returned (.int .i64 1) ∧ w = w' := by
  go_enter Try.func38, Try.ntmps38
  go_wp2_with (go_at_call 54; ((with_reducible refine (none_none h).mono ?_); rintro e w' ⟨rfl, rfl⟩))
  go_ret
  exact ⟨rfl, rfl⟩
end Go.Proofs.Ytkldffpdlkmncaa
