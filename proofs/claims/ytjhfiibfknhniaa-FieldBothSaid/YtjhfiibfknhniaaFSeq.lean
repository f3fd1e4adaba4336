/- What goes through a field's living cells, as a contract; of a field that is none it goes through nothing. -/
import Derived.RangeFuncNested
import Derived.RangeFuncBound
import Derived.RangeFuncCalls
import Derived.RangeFuncLeaves
import Derived.RangeFuncBox
import Derived.Shelf.Abstract
import Derived.Shelf.RegionOpen
import Derived.OwnWalkIn
import Derived.TacticsInMore
import Derived.LoopNIn
import Derived.LoopIn
import Derived.Test.YtjhfiibfknhniaaFNone
set_option linter.unusedVariables false
set_option linter.unusedSimpArgs false
namespace Go.Proofs.Ytjhfiibfknhniaa
open Go.RowKit Go.Shelf

/-- a cell that lives: its place and its state -/
abbrev Cel := Int × Int × Int
def celV (c : Cel) : Array Value := #[.agg #[.int .i64 c.1, .int .i64 c.2.1], .int .u8 c.2.2]

/-- what lies in some blocks is as it was -/
def KeepsOn (S : Nat → Prop) (W W' : World) : Prop := ∀ b, S b → W'.heap[b]? = W.heap[b]?
theorem keepsOn_t {S : Nat → Prop} {A B C : World} (h : KeepsOn S A B) (k : KeepsOn S B C) : KeepsOn S A C := fun b hb => (k b hb).trans (h b hb)
theorem keepsOn_b {S : Nat → Prop} {w : World} (hS : ∀ b, S b → b < w.heap.size) (W : World) (l : Nat) (o o' : Obj) (hl : w.heap.size ≤ l) (hx : W.heap[l]? = some o) (_ : o.isCells = false) (_ : o.isWalk = false) : KeepsOn S W (W.putObj l o') :=
  fun b hb => (grownBy_putObj' W l o').block b (by have := hS b hb; have := (Array.getElem?_eq_some_iff.1 hx).1; omega) (fun e => by have := hS b hb; injection e with e; omega)
theorem keepsOn_refl (S : Nat → Prop) (W : World) : KeepsOn S W W := fun _ _ => rfl

/-- a function value goes through just these cells, if what it looks at stays -/
def Iter (g : Nat) (lb : Array Value) (S : Nat → Prop) (L : List Cel) (w : World) : Prop :=
  (∀ b, S b → b < w.heap.size) ∧ ∀ n, 4 ≤ n → SeqStopsK Fence.wide n Try.prog g lb celV (KeepsOn S) (fun xs => xs = L) (fun p => p <+: L) L.length w

theorem living_none (B : Nat) {q : Option Addr} {w : World} (hB : w.heap[B]? = some (.cells #[.pointer q] 22 (0, 0))) (h : NoneAt q w) : Iter 51 #[.pointer (some ⟨B, 0, none⟩)] (fun _ => False) [] w := by
  refine ⟨fun _ h => h.elim, fun n _ l J Jx W hW hJ hJx hY h0 => callsIn_wide.2 ?_⟩
  have hb := bk_below hB hW
  have hn := h.below hW
  have hc := bk_cell hb
  go_enter Try.func51, Try.ntmps51
  go_wp2_with (go_at_call 34; ((with_reducible refine (none_none hn).mono ?_); rintro e w' ⟨rfl, rfl⟩))
  refine bodyPost_ret (results_none rfl _ _ _) rfl ?_
  exact ⟨⟨_, rfl⟩, .inl ⟨[], rfl, h0⟩⟩
end Go.Proofs.Ytjhfiibfknhniaa
