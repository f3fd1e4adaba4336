/- A store, bytes or bits: its methods by one contract each. -/
import Derived.Test.YtkldffpdlkmncaaFHas
import Derived.Shelf.Abstract
set_option linter.unusedVariables false
set_option linter.unusedSimpArgs false
namespace Go.Proofs.Ytkldffpdlkmncaa
open Go.RowKit

def fGet (pk : Bool) : FuncId := if pk then 124 else 128
def fSet (pk : Bool) : FuncId := if pk then 125 else 129
theorem meth_get (pk : Bool) (u : Value) (W : World) : (method 276 (stT pk) (.agg #[u]) "vivarium/field.get").run Try.prog W = .ok (fGet pk, .agg #[u]) W := by
  cases pk
  · show (method 276 143 (.agg #[u]) "vivarium/field.get").run Try.prog W = .ok (128, .agg #[u]) W
    kernel_rfl
  · show (method 276 139 (.agg #[u]) "vivarium/field.get").run Try.prog W = .ok (124, .agg #[u]) W
    kernel_rfl
theorem meth_set (pk : Bool) (u : Value) (W : World) : (method 276 (stT pk) (.agg #[u]) "vivarium/field.set").run Try.prog W = .ok (fSet pk, .agg #[u]) W := by
  cases pk
  · show (method 276 143 (.agg #[u]) "vivarium/field.set").run Try.prog W = .ok (129, .agg #[u]) W
    kernel_rfl
  · show (method 276 139 (.agg #[u]) "vivarium/field.set").run Try.prog W = .ok (125, .agg #[u]) W
    kernel_rfl
theorem ent_get (pk : Bool) (args : Array Value) (w : World) : (callFunc (fGet pk) args).run Try.prog w = .ok (.enter (fGet pk) args) w := by
  cases pk
  · exact enters_of Try.func128 (by kernel_rfl) rfl args w
  · exact enters_of Try.func124 (by kernel_rfl) rfl args w
theorem ent_set (pk : Bool) (args : Array Value) (w : World) : (callFunc (fSet pk) args).run Try.prog w = .ok (.enter (fSet pk) args) w := by
  cases pk
  · exact enters_of Try.func129 (by kernel_rfl) rfl args w
  · exact enters_of Try.func125 (by kernel_rfl) rfl args w
section
variable {pk : Bool} {gr W H c : Nat} {f : Nat → Nat → Int} {G : Nat → Nat} {w : World}
theorem store_get (h : StoreAt pk gr W H f G w) (x y : Nat) (hx : x < W) (hy : y < H) (hH : H ≤ 65536) (hW : W ≤ 65536) :
    Calls Try.prog (fGet pk) #[.agg #[.slice (some ⟨gr, 0, none⟩) H c], .int .i64 x, .int .i64 y] w fun e w' => e = .returned (.int .u8 (f y x)) ∧ Below w.heap.size w w' := by
  cases pk
  · exact (bget h x y hx hy hH hW).mono fun e w' ⟨a, b⟩ => ⟨a, b ▸ boxed _ _⟩
  · exact (tget h x y hx hy hH hW).mono fun e w' ⟨a, b⟩ => ⟨a, b ▸ boxed _ _⟩
theorem store_set (h : StoreAt pk gr W H f G w) (x y : Nat) (s : Int) (hx : x < W) (hy : y < H) (hs : 0 ≤ s) (hp : pk = true → s ≤ 1) (hH : H ≤ 65536) (hW : W ≤ 65536) :
    Calls Try.prog (fSet pk) #[.agg #[.slice (some ⟨gr, 0, none⟩) H c], .int .i64 x, .int .i64 y, .int .u8 s] w fun e w' => e = .returned (.tuple #[]) ∧ StoreAt pk gr W H (setF f y x s) G w' ∧ Wrote (bytesS gr H G) w w' := by
  cases pk
  · refine (bset h x y s hx hy hH hW).mono fun e w' ⟨a, b⟩ => ⟨a, ?_⟩
    subst b
    refine ⟨BytesAt.set (BytesAt.below h (boxed _ _)) y x hy hx s, ?_⟩
    exact (Wrote.of_below (boxed w _)).setCell (p := ⟨G y, x, none⟩) (.inl (.inr ⟨y, hy, rfl⟩)) _
  · obtain ⟨s, rfl⟩ := Int.eq_ofNat_of_zero_le hs
    have := hp rfl
    exact tset h x y s hx hy (by omega) hH hW
end
theorem store_fresh (pk : Bool) (W H : Nat) (St : Int) (w : World) (hW0 : 0 < W) (hW : W ≤ 65536) (hH0 : 0 < H) (hH : H ≤ 65536) :
    Calls Try.prog 56 #[.agg #[.int .i64 W, .int .i64 H, .int .i64 St], .bool pk] w fun e w' => ∃ gr c G, e = .returned (.iface (stT pk) (.agg #[.slice (some ⟨gr, 0, none⟩) H c])) ∧
      StoreAt pk gr W H (fun _ _ => 0) G w' ∧ (∀ b, bytesS gr H G b → w.heap.size ≤ b) ∧ Below w.heap.size w w' := by
  cases pk
  · exact bfresh W H St w hW0 hW hH0 hH
  · exact tfresh W H St w hW0 hW hH0 hH
end Go.Proofs.Ytkldffpdlkmncaa
