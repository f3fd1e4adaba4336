/- A field in memory; reading its numbers and its cells. -/
import Derived.Test.YtkldffpdlkmncaaFH
set_option linter.unusedVariables false
set_option linter.unusedSimpArgs false
namespace Go.Proofs.Ytkldffpdlkmncaa
open Go.RowKit

/-- what a field is -/
structure FD where
  W : Nat
  H : Nat
  St : Int
  pk : Bool
  f : Nat → Nat → Int

structure FD.Ok (D : FD) : Prop where
  w0 : 0 < D.W
  w1 : D.W ≤ 65536
  h0 : 0 < D.H
  h1 : D.H ≤ 65536
  wh : D.W * D.H ≤ 1048576
  s0 : 2 ≤ D.St
  s1 : D.St ≤ 256
  ps : D.pk = true → D.St ≤ 2
  bd : ∀ y x, y < D.H → x < D.W → 0 ≤ D.f y x ∧ D.f y x < D.St

/-- the type of a store -/
def stT (pk : Bool) : TypeId := if pk then 139 else 143
def StoreAt (pk : Bool) (gr W H : Nat) (f : Nat → Nat → Int) (G : Nat → Nat) (w : World) : Prop := if pk then BitsAt gr W H f G w else BytesAt gr W H f G w

section
variable {pk : Bool} {gr W H : Nat} {f f' : Nat → Nat → Int} {G : Nat → Nat} {w w' : World}
theorem StoreAt.lt (h : StoreAt pk gr W H f G w) : ∀ b, bytesS gr H G b → b < w.heap.size := by
  cases pk
  · exact BytesAt.lt h
  · exact BitsAt.lt h
theorem StoreAt.keep (h : StoreAt pk gr W H f G w) (hk : ∀ b, bytesS gr H G b → w'.heap[b]? = w.heap[b]?) : StoreAt pk gr W H f G w' := by
  cases pk
  · exact BytesAt.keep h hk
  · exact BitsAt.keep h hk
theorem StoreAt.cong (h : StoreAt pk gr W H f G w) (hf : ∀ y x, y < H → x < W → f y x = f' y x) : StoreAt pk gr W H f' G w := by
  cases pk
  · exact BytesAt.cong h hf
  · exact BitsAt.cong h hf
end

/-- a field's block and its store -/
structure FieldAt (g : Nat) (D : FD) (gr : Nat) (G : Nat → Nat) (w : World) : Prop where
  fld : ∃ c, w.heap[g]? = some (.cells #[.int .i64 D.W, .int .i64 D.H, .int .i64 D.St, .bool D.pk, .iface (stT D.pk) (.agg #[.slice (some ⟨gr, 0, none⟩) D.H c])] 31 (0, 0))
  st : StoreAt D.pk gr D.W D.H D.f G w
  ok : D.Ok

/-- a field with its blocks -/
structure Fld (g : Nat) (D : FD) (S : Nat → Prop) (w : World) : Prop where
  ex : ∃ gr G, FieldAt g D gr G w ∧ ∀ b, S b ↔ (b = g ∨ bytesS gr D.H G b)

section
variable {g : Nat} {D : FD} {S : Nat → Prop} {w w' : World}
theorem Fld.ok (h : Fld g D S w) : D.Ok := let ⟨_, _, a, _⟩ := h.ex; a.ok
theorem Fld.lt (h : Fld g D S w) : ∀ b, S b → b < w.heap.size := by
  obtain ⟨gr, G, a, hS⟩ := h.ex
  intro b hb
  rcases (hS b).1 hb with rfl | hb
  · obtain ⟨c, hc⟩ := a.fld; exact bk_lt hc
  · exact a.st.lt b hb
theorem Fld.keep (h : Fld g D S w) (hk : ∀ b, S b → w'.heap[b]? = w.heap[b]?) : Fld g D S w' := by
  obtain ⟨gr, G, a, hS⟩ := h.ex
  refine ⟨gr, G, ⟨?_, a.st.keep fun b hb => hk b ((hS b).2 (.inr hb)), a.ok⟩, hS⟩
  obtain ⟨c, hc⟩ := a.fld
  exact ⟨c, (hk g ((hS g).2 (.inl rfl))).trans hc⟩
theorem Fld.below (h : Fld g D S w) (hb : Below w.heap.size w w') : Fld g D S w' := h.keep fun b hS => hb.block b (h.lt b hS)
theorem Fld.wrote {T : Nat → Prop} (h : Fld g D S w) (hw : Wrote T w w') (hd : ∀ b, S b → ¬ T b) : Fld g D S w' := h.keep fun b hS => hw.block b (h.lt b hS) (hd b hS)
theorem Fld.drewN (h : Fld g D S w) (n : Nat) : Fld g D S (w.drewN n) := h.keep fun _ _ => rfl
end

theorem none_no {g : Nat} {D : FD} {S : Nat → Prop} {w : World} (h : Fld g D S w) : Calls Try.prog 54 #[.pointer (some ⟨g, 0, none⟩)] w fun e w' => e = .returned (.bool false) ∧ w = w' := by
  obtain ⟨gr, G, a, hS⟩ := h.ex
  obtain ⟨c, hc⟩ := a.fld
  have hcc := bk_cell hc
  obtain ⟨W, H, St, pk, f⟩ := D
  clear a hS h hc
  cases pk
  all_goals
    simp only [stT, if_true, Bool.false_eq_true, if_false] at hcc
    go_enter Try.func54, Try.ntmps54
    go_wp2
    go_ret
    exact ⟨rfl, rfl⟩
end Go.Proofs.Ytkldffpdlkmncaa
