/- ring: frame, what goes for both kinds. Printed by wip/mkRgF.py. -/
import Derived.Test.YtkldffpdlkmncaaRgM
import Derived.Laws.CopyOwn
set_option linter.unusedVariables false
set_option linter.unusedSimpArgs false
namespace Go.Proofs.Ytkldffpdlkmncaa
open Go.RowKit Go.Viv

/-- a row under way: the cells of which P is told are as F says -/
structure OutAt (T : TypeId) (BO n : Nat) (F : Nat → Value) (P : Nat → Prop) (wr : World) : Prop where
  ex : ∃ cs : Array Value, wr.heap[BO]? = some (.cells cs T (0, 0)) ∧ cs.size = n ∧ ∀ i, i < n → P i → cs[i]? = some (F i)
section
variable {T : TypeId} {BO n : Nat} {F : Nat → Value} {P P' : Nat → Prop} {wr w1 : World}
theorem OutAt.lt (h : OutAt T BO n F P wr) : BO < wr.heap.size := let ⟨_, a, _, _⟩ := h.ex; bk_lt a
theorem OutAt.below (h : OutAt T BO n F P wr) (hb : Below wr.heap.size wr w1) : OutAt T BO n F P w1 := let ⟨cs, a, b, c⟩ := h.ex; ⟨cs, bk_below a hb, b, c⟩
theorem OutAt.cell (h : OutAt T BO n F P wr) {j : Nat} (hj : j < n) : ∃ x, wr.cell? ⟨BO, j, none⟩ = some x := by
  obtain ⟨cs, a, b, _⟩ := h.ex
  exact ⟨cs[j]'(by omega), by rw [bk_cell a, Array.getElem?_eq_getElem]⟩
theorem OutAt.free (h : OutAt T BO n F P wr) (j : Nat) : wr.frozen? ⟨BO, j, none⟩ = false := let ⟨_, a, _⟩ := h.ex; bk_free a j
theorem OutAt.put (h : OutAt T BO n F P wr) {j : Nat} (hj : ¬ P j) (v : Value) : OutAt T BO n F P (wr.setCell ⟨BO, j, none⟩ v) := by
  obtain ⟨cs, a, b, c⟩ := h.ex
  refine ⟨_, bk_set a _ _, by simpa using b, fun i hi hP => ?_⟩
  have hne : j ≠ i := fun e => hj (by rw [e]; exact hP)
  rw [Array.getElem?_setIfInBounds_ne hne]
  exact c i hi hP
theorem OutAt.set (h : OutAt T BO n F P wr) {j : Nat} {v : Value} (hv : v = F j) : OutAt T BO n F (fun i => P i ∨ i = j) (wr.setCell ⟨BO, j, none⟩ v) := by
  obtain ⟨cs, a, b, c⟩ := h.ex
  refine ⟨_, bk_set a _ _, by simpa using b, fun i hi hP => ?_⟩
  by_cases e : i = j
  · subst e
    rw [hv]
    exact Array.getElem?_setIfInBounds_self_of_lt (by omega)
  · rw [Array.getElem?_setIfInBounds_ne (fun h => e h.symm)]
    exact c i hi (hP.resolve_right e)
theorem OutAt.mono (h : OutAt T BO n F P wr) (hP : ∀ i, i < n → P' i → P i) : OutAt T BO n F P' wr := let ⟨cs, a, b, c⟩ := h.ex; ⟨cs, a, b, fun i hi hp => c i hi (hP i hi hp)⟩
/-- a run of cells laid over -/
theorem OutAt.splice (h : OutAt T BO n F P wr) {cur : List Value} (hc : wr.heap[BO]? = some (.cells cur.toArray T (0, 0))) {off : Nat} {cs : List Value} (hfit : off + cs.length ≤ n) (hcs : ∀ j, j < cs.length → cs[j]? = some (F (off + j))) {w2 : World}
    (h2 : w2.heap[BO]? = some (.cells (Go.splice cur off cs).toArray T (0, 0))) : OutAt T BO n F (fun i => P i ∨ off ≤ i ∧ i < off + cs.length) w2 := by
  obtain ⟨cs0, a, b, c⟩ := h.ex
  rw [hc] at a
  obtain rfl : cur.toArray = cs0 := by simpa using a
  have hl : cur.length = n := by simpa using b
  refine ⟨_, h2, by simp [length_splice cur off cs (by omega), hl], fun i hi hP => ?_⟩
  unfold Go.splice
  rw [List.getElem?_toArray]
  by_cases h1 : i < off
  · rw [List.getElem?_append_left (by simp; omega), List.getElem?_take, if_pos h1]
    have := c i hi (hP.resolve_right (by omega))
    simpa using this
  · rw [List.getElem?_append_right (by simp; omega), List.length_take, Nat.min_eq_left (by omega)]
    by_cases h3 : i < off + cs.length
    · rw [List.getElem?_append_left (by omega), hcs _ (by omega)]
      congr 2; omega
    · rw [List.getElem?_append_right (by omega), List.getElem?_drop]
      have := c i hi (hP.resolve_right (by omega))
      rw [show off + cs.length + (i - off - cs.length) = i by omega]
      simpa using this
end
theorem binfo : (Try.prog.info? 4).map (fun i => (i.zero, i.size, i.bytes)) = some (some (.bool false), 1, 1) := by kernel_rfl
theorem rg_add (b q : Nat) : (⟨b, 0, none⟩ : Addr).add q = ⟨b, q, none⟩ := by unfold Addr.add; split <;> simp_all
theorem rg_wrap {a b : Int} (h : a = b) (h1 : -4611686018427387904 ≤ b) (h2 : b ≤ 4611686018427387904) : IntKind.i64.wrap a = b := by rw [h, IntKind.wrap_i64]; omega
end Go.Proofs.Ytkldffpdlkmncaa
