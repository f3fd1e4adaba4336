/- What a field is in memory: its block, and its cells as bytes. -/
import Derived.Test.YtdpcmpfhjhbicaaRd
set_option linter.unusedVariables false
set_option linter.unusedSimpArgs false
namespace Go.Proofs.Ytdpcmpfhjhbicaa
open Go.RowKit

/-- only what lies in S, and what is new, may have turned -/
structure Wrote (S : Nat → Prop) (w w' : World) : Prop where
  os : w'.os = w.os
  tape : w'.tape = w.tape
  output : w'.output = w.output
  size : w.heap.size ≤ w'.heap.size
  block : ∀ k, k < w.heap.size → ¬ S k → w'.heap[k]? = w.heap[k]?

section
variable {S S' : Nat → Prop} {w w' w'' : World}
theorem Wrote.refl (S : Nat → Prop) (w : World) : Wrote S w w := ⟨rfl, rfl, rfl, Nat.le_refl _, fun _ _ _ => rfl⟩
theorem Wrote.trans (h : Wrote S w w') (h' : Wrote S w' w'') : Wrote S w w'' :=
  ⟨h'.os.trans h.os, h'.tape.trans h.tape, h'.output.trans h.output, Nat.le_trans h.size h'.size, fun k hk hs => (h'.block k (Nat.lt_of_lt_of_le hk h.size) hs).trans (h.block k hk hs)⟩
theorem Wrote.more (h : Wrote S w w') (hs : ∀ k, k < w.heap.size → S k → S' k) : Wrote S' w w' := ⟨h.os, h.tape, h.output, h.size, fun k hk hn => h.block k hk fun hS => hn (hs k hk hS)⟩
theorem Wrote.of_below (h : Below w.heap.size w w') : Wrote S w w' := ⟨h.os, h.tape, h.output, h.size, fun k hk _ => h.block k hk⟩
theorem Wrote.below {B : Nat} (h : Wrote S w w') (hB : B ≤ w.heap.size) (hs : ∀ k, S k → B ≤ k) : Below B w w' := ⟨h.os, h.tape, h.output, h.size, fun k hk => h.block k (by omega) fun hS => by have := hs k hS; omega⟩
theorem Wrote.drew (h : Wrote S w w') : Wrote S w w'.drew := ⟨h.os, h.tape, h.output, h.size, h.block⟩
theorem Wrote.drewN (h : Wrote S w w') (n : Nat) : Wrote S w (w'.drewN n) := ⟨h.os, h.tape, h.output, h.size, h.block⟩
theorem Wrote.alloc (h : Wrote S w w') (o : Obj) : Wrote S w (w'.alloc o) := h.trans (Wrote.of_below (boxed _ _))
theorem Wrote.setCell (h : Wrote S w w') {p : Addr} (hp : S p.block ∨ w.heap.size ≤ p.block) (v : Value) : Wrote S w (w'.setCell p v) :=
  ⟨h.os, h.tape, h.output, by simpa [World.setCell] using h.size, fun k hk hn => (Below.heap_setCell w' p v k (fun e => by subst e; rcases hp with hp | hp; exact hn hp; omega)).trans (h.block k hk hn)⟩
theorem Wrote.keeps (h : Wrote S w w') (hb : ∀ b, S' b → b < w.heap.size) (hd : ∀ b, S' b → ¬ S b) : ∀ b, S' b → w'.heap[b]? = w.heap[b]? := fun b hb' => h.block b (hb b hb') (hd b hb')
end

/-- cells kept as bytes: the list of rows lies at block gr, the row y at block G y -/
structure BytesAt (gr : Nat) (W H : Nat) (f : Nat → Nat → Int) (G : Nat → Nat) (w : World) : Prop where
  rows : ∃ cur, w.heap[gr]? = some (.cells cur 44 (0, 0)) ∧ ∀ y, y < H → ∃ c, cur[y]? = some (.slice (some ⟨G y, 0, none⟩) W c)
  row : ∀ y, y < H → ∃ cur, w.heap[G y]? = some (.cells cur 5 (0, 0)) ∧ ∀ x, x < W → cur[x]? = some (.int .u8 (f y x))
  inj : ∀ y y', y < H → y' < H → G y = G y' → y = y'

/-- the blocks of a store of bytes -/
def bytesS (gr H : Nat) (G : Nat → Nat) (b : Nat) : Prop := b = gr ∨ ∃ y, y < H ∧ b = G y

section
variable {gr W H : Nat} {f f' : Nat → Nat → Int} {G : Nat → Nat} {w w' : World}
theorem BytesAt.lt (h : BytesAt gr W H f G w) : ∀ b, bytesS gr H G b → b < w.heap.size := by
  rintro b (rfl | ⟨y, hy, rfl⟩)
  · obtain ⟨cur, hc, _⟩ := h.rows; exact bk_lt hc
  · obtain ⟨cur, hc, _⟩ := h.row y hy; exact bk_lt hc
theorem BytesAt.keep (h : BytesAt gr W H f G w) (hk : ∀ b, bytesS gr H G b → w'.heap[b]? = w.heap[b]?) : BytesAt gr W H f G w' :=
  ⟨let ⟨cur, hc, r⟩ := h.rows; ⟨cur, (hk gr (.inl rfl)).trans hc, r⟩, fun y hy => let ⟨cur, hc, r⟩ := h.row y hy; ⟨cur, (hk _ (.inr ⟨y, hy, rfl⟩)).trans hc, r⟩, h.inj⟩
theorem BytesAt.below (h : BytesAt gr W H f G w) (hb : Below w.heap.size w w') : BytesAt gr W H f G w' := h.keep fun b hS => hb.block b (h.lt b hS)
theorem BytesAt.cong (h : BytesAt gr W H f G w) (hf : ∀ y x, y < H → x < W → f y x = f' y x) : BytesAt gr W H f' G w :=
  ⟨h.rows, fun y hy => let ⟨cur, hc, r⟩ := h.row y hy; ⟨cur, hc, fun x hx => by rw [r x hx, hf y x hy hx]⟩, h.inj⟩
theorem BytesAt.rowcell (h : BytesAt gr W H f G w) (y : Nat) (hy : y < H) : ∃ c, w.cell? ⟨gr, y, none⟩ = some (.slice (some ⟨G y, 0, none⟩) W c) := by
  obtain ⟨cur, hc, r⟩ := h.rows
  obtain ⟨c, hr⟩ := r y hy
  exact ⟨c, by rw [bk_cell hc, hr]⟩
theorem BytesAt.cell (h : BytesAt gr W H f G w) (y x : Nat) (hy : y < H) (hx : x < W) : w.cell? ⟨G y, x, none⟩ = some (.int .u8 (f y x)) := by
  obtain ⟨cur, hc, r⟩ := h.row y hy
  rw [bk_cell hc, r x hx]
theorem BytesAt.free (h : BytesAt gr W H f G w) (y : Nat) (hy : y < H) (x : Nat) : w.frozen? ⟨G y, x, none⟩ = false := by
  obtain ⟨cur, hc, r⟩ := h.row y hy
  exact bk_free hc x
/-- a cell is made another one -/
def setF (f : Nat → Nat → Int) (y x : Nat) (s : Int) : Nat → Nat → Int := fun y' x' => if y' = y ∧ x' = x then s else f y' x'
theorem BytesAt.set (h : BytesAt gr W H f G w) (y x : Nat) (hy : y < H) (hx : x < W) (s : Int) : BytesAt gr W H (setF f y x s) G (w.setCell ⟨G y, x, none⟩ (.int .u8 s)) := by
  refine ⟨?_, fun y' hy' => ?_, h.inj⟩
  · obtain ⟨cur, hc, r⟩ := h.rows
    refine ⟨cur, bk_far hc ?_ _, r⟩
    obtain ⟨cur', hc', _⟩ := h.row y hy
    rintro rfl
    rw [hc] at hc'
    simp at hc'
  · obtain ⟨cur, hc, r⟩ := h.row y' hy'
    by_cases e : y' = y
    · subst e
      refine ⟨_, bk_set hc x _, fun x' hx' => ?_⟩
      have hlt : x' < cur.size := (Array.getElem?_eq_some_iff.1 (r x' hx')).1
      by_cases e' : x' = x
      · subst e'
        simp [setF, hlt]
      · have := r x' hx'
        simp [setF, e', Array.getElem?_setIfInBounds, Ne.symm e', this]
    · refine ⟨cur, bk_far hc (fun e2 => e (h.inj _ _ hy' hy e2)) _, fun x' hx' => ?_⟩
      rw [r x' hx']
      simp [setF, e]
end
end Go.Proofs.Ytdpcmpfhjhbicaa
