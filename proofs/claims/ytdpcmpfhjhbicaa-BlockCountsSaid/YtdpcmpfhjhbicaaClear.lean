/- clear(s), s a row that begins at its block's head: the law. -/
import Derived.Test.YtdpcmpfhjhbicaaB0
import Derived.Laws.CopyRow
import Derived.OwnWalk
set_option linter.unusedVariables false
set_option linter.unusedSimpArgs false
namespace Go.Proofs.Ytdpcmpfhjhbicaa
open Go.RowKit

/-- the cells behind clear -/
def cleared (z : Value) (n : Nat) (cur : Array Value) : Array Value := ((List.replicate n z) ++ cur.toList.drop n).toArray
theorem cleared_lt {z : Value} {n : Nat} {cur : Array Value} (h : n ≤ cur.size) (i : Nat) (hi : i < n) : (cleared z n cur)[i]? = some z := by
  simp only [cleared, List.getElem?_toArray]
  rw [List.getElem?_append_left (by simpa using hi)]
  simp [List.getElem?_replicate, hi]
theorem zeroCells_one (z : Value) (n : Nat) : (Builtin.zeroCells #[z] n).toList = List.replicate n z := by
  unfold Builtin.zeroCells
  simp only [List.size_toArray, List.length_singleton, Nat.mul_one, Array.toList_map, Array.toList_range]
  apply List.ext_getElem
  · simp
  · intro i h1 h2
    simp [Nat.mod_one]

theorem run_clear_row {P : Program} {w : World} {t ty elem : TypeId} {z : Value} (hu : P.underlying t = some (.slice elem)) (hz : (zeroValue elem).run P w = .ok z w) (hzc : z.cells = #[z]) (h1 : z.oneCell' = true)
    {g n c : Nat} {cur : Array Value} {t' : TypeId} (hg : w.heap[g]? = some (.cells cur t' (0, 0))) (hn : n ≤ cur.size) (hp : 0 < n) :
    (Builtin.clear_ #[t] ty #[.slice (some ⟨g, 0, none⟩) n c]).run P w = .ok (.tuple #[]) (w.setRow g (cleared z n cur)) := by
  have hs := run_storeCells_at P g 0 t' (List.replicate n z) 0 cur w hg (by simpa using hn) (by intro v hv; rw [List.eq_of_mem_replicate hv]; exact h1)
  obtain ⟨m, rfl⟩ : ∃ m, n = m + 1 := ⟨n - 1, by omega⟩
  simp only [Nat.add_zero, List.take_zero, List.nil_append, List.length_replicate, Nat.zero_add] at hs
  have hzl := zeroCells_one z (m + 1)
  simp [Builtin.clear_, run_underlying hu, hz, hzc, hzl, hs, cleared]

theorem wpList_clear {P : Program} {w : World} {ops : Array Oper} {rest : List Oper} {o : Oper} {a : Act} {Q : Exit → Act → World → Prop} (hgd : o.guard = none) (x : Operand) (t elem : TypeId) (z : Value)
    (ho : o.op = .call { callee := .builtin .clear, args := #[x], argTypes := #[t] }) (hu : P.underlying t = some (.slice elem)) (hz : ∀ w, (zeroValue elem).run P w = .ok z w) (hzc : z.cells = #[z]) (h1 : z.oneCell' = true)
    (g n c : Nat) (cur : Array Value) (t' : TypeId) (hx : a.eval x = .slice (some ⟨g, 0, none⟩) n c) (hg : w.heap[g]? = some (.cells cur t' (0, 0))) (hn : n ≤ cur.size) (hp : 0 < n)
    (h : wpList P ops Q rest (a.put o.dst (.tuple #[])) (w.setRow g (cleared z n cur))) : wpList P ops Q (o :: rest) a w := by
  refine wpList_plain hgd fun K hK => ?_
  have hrun := run_clear_row (P := P) (ty := o.type) (c := c) hu (hz w) hzc h1 hg hn hp
  unfold Oper.wp
  simp [execOp, ho, resolve, invoke, builtin, hx, hrun, Result.andThen]
  exact hK _ _ h

theorem bk_row {w : World} {g : Nat} {t : TypeId} {cs cs' : Array Value} (h : w.heap[g]? = some (.cells cs t (0, 0))) : (w.setRow g cs').heap[g]? = some (.cells cs' t (0, 0)) := setRow_heap w g cs cs' t _ h
theorem bk_rowfar {w : World} {g k : Nat} {o : Obj} (h : w.heap[k]? = some o) (hne : k ≠ g) (cs : Array Value) : (w.setRow g cs).heap[k]? = some o := (setRow_other w g k cs hne).trans h
end Go.Proofs.Ytdpcmpfhjhbicaa
