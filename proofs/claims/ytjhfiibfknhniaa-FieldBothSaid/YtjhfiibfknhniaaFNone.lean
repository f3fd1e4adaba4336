/- A field that is none: what its methods answer. -/
import Derived.Test.YtjhfiibfknhniaaB0
set_option linter.unusedVariables false
set_option linter.unusedSimpArgs false
namespace Go.Proofs.Ytjhfiibfknhniaa
open Go.RowKit

/-- a field that is nil, or that nobody made -/
def NoneAt (q : Option Addr) (w : World) : Prop := q = none ∨ ∃ g, q = some ⟨g, 0, none⟩ ∧ w.heap[g]? = some (.cells #[.int .i64 0, .int .i64 0, .int .i64 0, .bool false, .nilIface] 57 (0, 0))

theorem NoneAt.below {q : Option Addr} {w w' : World} (h : NoneAt q w) (hb : Below w.heap.size w w') : NoneAt q w' := by
  rcases h with rfl | ⟨g, rfl, hg⟩
  · exact .inl rfl
  · exact .inr ⟨g, rfl, bk_below hg hb⟩

theorem none_none {q : Option Addr} {w : World} (h : NoneAt q w) : Calls Try.prog 34 #[.pointer q] w fun e w' => e = .returned (.bool true) ∧ w = w' := by
  rcases h with rfl | ⟨g, rfl, hg⟩
  · go_enter Try.func34, Try.ntmps34
    go_wp2
    go_ret
    exact ⟨rfl, rfl⟩
  · have hc := bk_cell hg
    go_enter Try.func34, Try.ntmps34
    go_wp2
    go_ret
    exact ⟨rfl, rfl⟩
theorem W_none {q : Option Addr} {w : World} (h : NoneAt q w) : Calls Try.prog 22 #[.pointer q] w fun e w' => e = .returned (.int .i64 0) ∧ w = w' := by
  go_enter Try.func22, Try.ntmps22
  go_wp2_with (go_at_call 34; ((with_reducible refine (none_none h).mono ?_); rintro e w' ⟨rfl, rfl⟩))
  go_ret
  exact ⟨rfl, rfl⟩
theorem H_none {q : Option Addr} {w : World} (h : NoneAt q w) : Calls Try.prog 23 #[.pointer q] w fun e w' => e = .returned (.int .i64 0) ∧ w = w' := by
  go_enter Try.func23, Try.ntmps23
  go_wp2_with (go_at_call 34; ((with_reducible refine (none_none h).mono ?_); rintro e w' ⟨rfl, rfl⟩))
  go_ret
  exact ⟨rfl, rfl⟩
theorem States_none {q : Option Addr} {w : World} (h : NoneAt q w) : Calls Try.prog 24 #[.pointer q] w fun e w' => e = .returned (.int .i64 0) ∧ w = w' := by
  go_enter Try.func24, Try.ntmps24
  go_wp2_with (go_at_call 34; ((with_reducible refine (none_none h).mono ?_); rintro e w' ⟨rfl, rfl⟩))
  go_ret
  exact ⟨rfl, rfl⟩
theorem Packed_none {q : Option Addr} {w : World} (h : NoneAt q w) : Calls Try.prog 17 #[.pointer q] w fun e w' => e = .returned (.bool false) ∧ w = w' := by
  go_enter Try.func17, Try.ntmps17
  go_wp2_with (go_at_call 34; ((with_reducible refine (none_none h).mono ?_); rintro e w' ⟨rfl, rfl⟩))
  go_ret
  exact ⟨rfl, rfl⟩
theorem Clear_none {q : Option Addr} {w : World} (h : NoneAt q w) : Calls Try.prog 26 #[.pointer q] w fun e w' => e = .returned (.int .i64 1) ∧ w = w' := by
  go_enter Try.func26, Try.ntmps26
  go_wp2_with (go_at_call 34; ((with_reducible refine (none_none h).mono ?_); rintro e w' ⟨rfl, rfl⟩))
  go_ret
  exact ⟨rfl, rfl⟩
theorem Pack_none {q : Option Addr} {w : World} (on : Bool) (h : NoneAt q w) : Calls Try.prog 28 #[.pointer q, .bool on] w fun e w' => e = .returned (.int .i64 1) ∧ w = w' := by
  go_enter Try.func28, Try.ntmps28
  go_wp2_with (go_at_call 34; ((with_reducible refine (none_none h).mono ?_); rintro e w' ⟨rfl, rfl⟩))
  go_ret
  exact ⟨rfl, rfl⟩
theorem Get_none {q : Option Addr} {w : World} (x y : Int) (h : NoneAt q w) : Calls Try.prog 14 #[.pointer q, .int .i64 x, .int .i64 y] w fun e w' => e = .returned (.tuple #[.int .u8 0, .int .i64 1]) ∧ w = w' := by
  go_enter Try.func14, Try.ntmps14
  go_wp2_with (go_at_call 34; ((with_reducible refine (none_none h).mono ?_); rintro e w' ⟨rfl, rfl⟩))
  go_ret2
  exact ⟨rfl, rfl⟩
theorem Set_none {q : Option Addr} {w : World} (x y s : Int) (h : NoneAt q w) : Calls Try.prog 25 #[.pointer q, .int .i64 x, .int .i64 y, .int .u8 s] w fun e w' => e = .returned (.int .i64 1) ∧ w = w' := by
  go_enter Try.func25, Try.ntmps25
  go_wp2_with (go_at_call 34; ((with_reducible refine (none_none h).mono ?_); rintro e w' ⟨rfl, rfl⟩))
  go_ret
  exact ⟨rfl, rfl⟩
theorem Line_none {q : Option Addr} {w : World} (y : Int) (h : NoneAt q w) : Calls Try.prog 12 #[.pointer q, .int .i64 y] w fun e w' => e = .returned (.tuple #[.slice none 0 0, .int .i64 1]) ∧ w = w' := by
  go_enter Try.func12, Try.ntmps12
  go_wp2_with (go_at_call 34; ((with_reducible refine (none_none h).mono ?_); rintro e w' ⟨rfl, rfl⟩))
  go_ret2
  exact ⟨rfl, rfl⟩
theorem Lay_none {q : Option Addr} {w : World} (y : Int) (l : Value) (h : NoneAt q w) : Calls Try.prog 11 #[.pointer q, .int .i64 y, l] w fun e w' => e = .returned (.int .i64 1) ∧ w = w' := by
  go_enter Try.func11, Try.ntmps11
  go_wp2_with (go_at_call 34; ((with_reducible refine (none_none h).mono ?_); rintro e w' ⟨rfl, rfl⟩))
  go_ret
  exact ⟨rfl, rfl⟩
theorem Clone_none {q : Option Addr} {w : World} (h : NoneAt q w) : Calls Try.prog 21 #[.pointer q] w fun e w' => e = .returned (.pointer none) ∧ w = w' := by
  go_enter Try.func21, Try.ntmps21
  go_wp2_with (go_at_call 34; ((with_reducible refine (none_none h).mono ?_); rintro e w' ⟨rfl, rfl⟩))
  go_ret
  exact ⟨rfl, rfl⟩
theorem living_calls (q : Option Addr) (w : World) : Calls Try.prog 37 #[.pointer q] w fun e w' => e = .returned (.func (.func 51) #[] #[.pointer (some ⟨w.heap.size, 0, none⟩)]) ∧ w' = w.alloc (.cells #[.pointer q] 22) := by
  have hmf : ∀ (fn : Fn) (first cap : Array Value) (w : World), (Instr.makeFunc fn first cap).run Try.prog w = .ok (.func fn first cap) w := fun _ _ _ _ => rfl
  go_enter Try.func37, Try.ntmps37
  go_wp2
  go_ret
  exact ⟨rfl, rfl⟩
theorem Cells_none {q : Option Addr} {w : World} (h : NoneAt q w) : Calls Try.prog 20 #[.pointer q] w fun e w' => e = .returned (.func (.func 51) #[] #[.pointer (some ⟨w.heap.size, 0, none⟩)]) ∧ w' = w.alloc (.cells #[.pointer none] 22) := by
  go_enter Try.func20, Try.ntmps20
  go_wp2_with (first | (go_at_call 21; ((with_reducible refine (Clone_none h).mono ?_); rintro e w' ⟨rfl, rfl⟩)) | (go_at_call 37; ((with_reducible refine (living_calls _ _).mono ?_); rintro e w' ⟨rfl, rfl⟩)))
  go_ret
  exact ⟨rfl, rfl⟩
end Go.Proofs.Ytjhfiibfknhniaa
