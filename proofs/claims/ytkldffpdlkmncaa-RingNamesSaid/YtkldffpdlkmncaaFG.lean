/- What a field is in memory: its block, and its cells as bytes. Cells kept as bytes: reading and writing one. clear(s), s a row that begins at its block's head: the law. A new store of bytes. A new store of bytes: the walk. -/
import Derived.Test.YtkldffpdlkmncaaRd
import Derived.Test.YtkldffpdlkmncaaB0
import Derived.Laws.CopyRow
import Derived.OwnWalk
import Derived.Deep.RegionHeld3
import Derived.Deep.AppendLies
import Derived.StillTactics
import Derived.Deep.RegionLaw

set_option linter.unusedVariables false
set_option linter.unusedSimpArgs false
namespace Go.Proofs.Ytkldffpdlkmncaa
open Go.RowKit

/-- only what lies in S, and what is new, may have turned -/
structure Wrote (S : Nat → Prop) (w w' : World) : Prop where
  os : w'.os = w.os
  tape : w'.tape = w.tape
  output : w'.output = w.output
  size : w.heap.size ≤ w'.heap.size
  block : ∀ k, k < w.heap.size → ¬ S k → w'.heap[k]? = w.heap[k]?

section
variable {S S' : Nat → Prop} {w w' w'' : World}
theorem Wrote.refl (S : Nat → Prop) (w : World) : Wrote S w w := ⟨rfl, rfl, rfl, Nat.le_refl _, fun _ _ _ => rfl⟩
theorem Wrote.trans (h : Wrote S w w') (h' : Wrote S w' w'') : Wrote S w w'' :=
  ⟨h'.os.trans h.os, h'.tape.trans h.tape, h'.output.trans h.output, Nat.le_trans h.size h'.size, fun k hk hs => (h'.block k (Nat.lt_of_lt_of_le hk h.size) hs).trans (h.block k hk hs)⟩
theorem Wrote.more (h : Wrote S w w') (hs : ∀ k, k < w.heap.size → S k → S' k) : Wrote S' w w' := ⟨h.os, h.tape, h.output, h.size, fun k hk hn => h.block k hk fun hS => hn (hs k hk hS)⟩
theorem Wrote.of_below (h : Below w.heap.size w w') : Wrote S w w' := ⟨h.os, h.tape, h.output, h.size, fun k hk _ => h.block k hk⟩
theorem Wrote.below {B : Nat} (h : Wrote S w w') (hB : B ≤ w.heap.size) (hs : ∀ k, S k → B ≤ k) : Below B w w' := ⟨h.os, h.tape, h.output, h.size, fun k hk => h.block k (by omega) fun hS => by have := hs k hS; omega⟩
theorem Wrote.drew (h : Wrote S w w') : Wrote S w w'.drew := ⟨h.os, h.tape, h.output, h.size, h.block⟩
theorem Wrote.drewN (h : Wrote S w w') (n : Nat) : Wrote S w (w'.drewN n) := ⟨h.os, h.tape, h.output, h.size, h.block⟩
theorem Wrote.alloc (h : Wrote S w w') (o : Obj) : Wrote S w (w'.alloc o) := h.trans (Wrote.of_below (boxed _ _))
theorem Wrote.setCell (h : Wrote S w w') {p : Addr} (hp : S p.block ∨ w.heap.size ≤ p.block) (v : Value) : Wrote S w (w'.setCell p v) :=
  ⟨h.os, h.tape, h.output, by simpa [World.setCell] using h.size, fun k hk hn => (Below.heap_setCell w' p v k (fun e => by subst e; rcases hp with hp | hp; exact hn hp; omega)).trans (h.block k hk hn)⟩
theorem Wrote.keeps (h : Wrote S w w') (hb : ∀ b, S' b → b < w.heap.size) (hd : ∀ b, S' b → ¬ S b) : ∀ b, S' b → w'.heap[b]? = w.heap[b]? := fun b hb' => h.block b (hb b hb') (hd b hb')
end

/-- cells kept as bytes: the list of rows lies at block gr, the row y at block G y -/
structure BytesAt (gr : Nat) (W H : Nat) (f : Nat → Nat → Int) (G : Nat → Nat) (w : World) : Prop where
  rows : ∃ cur, w.heap[gr]? = some (.cells cur 32 (0, 0)) ∧ ∀ y, y < H → ∃ c, cur[y]? = some (.slice (some ⟨G y, 0, none⟩) W c)
  row : ∀ y, y < H → ∃ cur, w.heap[G y]? = some (.cells cur 5 (0, 0)) ∧ ∀ x, x < W → cur[x]? = some (.int .u8 (f y x))
  inj : ∀ y y', y < H → y' < H → G y = G y' → y = y'

/-- the blocks of a store of bytes -/
def bytesS (gr H : Nat) (G : Nat → Nat) (b : Nat) : Prop := b = gr ∨ ∃ y, y < H ∧ b = G y

section
variable {gr W H : Nat} {f f' : Nat → Nat → Int} {G : Nat → Nat} {w w' : World}
theorem BytesAt.lt (h : BytesAt gr W H f G w) : ∀ b, bytesS gr H G b → b < w.heap.size := by
  rintro b (rfl | ⟨y, hy, rfl⟩)
  · obtain ⟨cur, hc, _⟩ := h.rows; exact bk_lt hc
  · obtain ⟨cur, hc, _⟩ := h.row y hy; exact bk_lt hc
theorem BytesAt.keep (h : BytesAt gr W H f G w) (hk : ∀ b, bytesS gr H G b → w'.heap[b]? = w.heap[b]?) : BytesAt gr W H f G w' :=
  ⟨let ⟨cur, hc, r⟩ := h.rows; ⟨cur, (hk gr (.inl rfl)).trans hc, r⟩, fun y hy => let ⟨cur, hc, r⟩ := h.row y hy; ⟨cur, (hk _ (.inr ⟨y, hy, rfl⟩)).trans hc, r⟩, h.inj⟩
theorem BytesAt.below (h : BytesAt gr W H f G w) (hb : Below w.heap.size w w') : BytesAt gr W H f G w' := h.keep fun b hS => hb.block b (h.lt b hS)
theorem BytesAt.cong (h : BytesAt gr W H f G w) (hf : ∀ y x, y < H → x < W → f y x = f' y x) : BytesAt gr W H f' G w :=
  ⟨h.rows, fun y hy => let ⟨cur, hc, r⟩ := h.row y hy; ⟨cur, hc, fun x hx => by rw [r x hx, hf y x hy hx]⟩, h.inj⟩
theorem BytesAt.rowcell (h : BytesAt gr W H f G w) (y : Nat) (hy : y < H) : ∃ c, w.cell? ⟨gr, y, none⟩ = some (.slice (some ⟨G y, 0, none⟩) W c) := by
  obtain ⟨cur, hc, r⟩ := h.rows
  obtain ⟨c, hr⟩ := r y hy
  exact ⟨c, by rw [bk_cell hc, hr]⟩
theorem BytesAt.cell (h : BytesAt gr W H f G w) (y x : Nat) (hy : y < H) (hx : x < W) : w.cell? ⟨G y, x, none⟩ = some (.int .u8 (f y x)) := by
  obtain ⟨cur, hc, r⟩ := h.row y hy
  rw [bk_cell hc, r x hx]
theorem BytesAt.free (h : BytesAt gr W H f G w) (y : Nat) (hy : y < H) (x : Nat) : w.frozen? ⟨G y, x, none⟩ = false := by
  obtain ⟨cur, hc, r⟩ := h.row y hy
  exact bk_free hc x
/-- a cell is made another one -/
def setF (f : Nat → Nat → Int) (y x : Nat) (s : Int) : Nat → Nat → Int := fun y' x' => if y' = y ∧ x' = x then s else f y' x'
theorem BytesAt.set (h : BytesAt gr W H f G w) (y x : Nat) (hy : y < H) (hx : x < W) (s : Int) : BytesAt gr W H (setF f y x s) G (w.setCell ⟨G y, x, none⟩ (.int .u8 s)) := by
  refine ⟨?_, fun y' hy' => ?_, h.inj⟩
  · obtain ⟨cur, hc, r⟩ := h.rows
    refine ⟨cur, bk_far hc ?_ _, r⟩
    obtain ⟨cur', hc', _⟩ := h.row y hy
    rintro rfl
    rw [hc] at hc'
    simp at hc'
  · obtain ⟨cur, hc, r⟩ := h.row y' hy'
    by_cases e : y' = y
    · subst e
      refine ⟨_, bk_set hc x _, fun x' hx' => ?_⟩
      have hlt : x' < cur.size := (Array.getElem?_eq_some_iff.1 (r x' hx')).1
      by_cases e' : x' = x
      · subst e'
        simp [setF, hlt]
      · have := r x' hx'
        simp [setF, e', Array.getElem?_setIfInBounds, Ne.symm e', this]
    · refine ⟨cur, bk_far hc (fun e2 => e (h.inj _ _ hy' hy e2)) _, fun x' hx' => ?_⟩
      rw [r x' hx']
      simp [setF, e]
end
end Go.Proofs.Ytkldffpdlkmncaa


set_option linter.unusedVariables false
set_option linter.unusedSimpArgs false
namespace Go.Proofs.Ytkldffpdlkmncaa
open Go.RowKit

/-- the value of a store of bytes -/
def byteV (gr H c : Nat) : Value := .agg #[.slice (some ⟨gr, 0, none⟩) H c]

theorem bget {gr W H c : Nat} {f : Nat → Nat → Int} {G : Nat → Nat} {w : World} (h : BytesAt gr W H f G w) (x y : Nat) (hx : x < W) (hy : y < H) (hH : H ≤ 65536) (hW : W ≤ 65536) :
    Calls Try.prog 128 #[.agg #[.slice (some ⟨gr, 0, none⟩) H c], .int .i64 x, .int .i64 y] w fun e w' => e = .returned (.int .u8 (f y x)) ∧ w' = w.alloc (.cells #[.slice (some ⟨gr, 0, none⟩) H c] 143) := by
  have h1 := h.below (boxed w (.cells #[.slice (some ⟨gr, 0, none⟩) H c] 143))
  obtain ⟨c1, hc1⟩ := h1.rowcell y hy
  have hc2 := h1.cell y x hy hx
  have H1 := Lib.hid h1; have H0 := Lib.hid h; clear h h1
  go_enter Try.func128, Try.ntmps128
  go_wp2
  go_ret
  exact ⟨rfl, rfl⟩

theorem bset {gr W H c : Nat} {f : Nat → Nat → Int} {G : Nat → Nat} {w : World} (h : BytesAt gr W H f G w) (x y : Nat) (s : Int) (hx : x < W) (hy : y < H) (hH : H ≤ 65536) (hW : W ≤ 65536) :
    Calls Try.prog 129 #[.agg #[.slice (some ⟨gr, 0, none⟩) H c], .int .i64 x, .int .i64 y, .int .u8 s] w fun e w' => e = .returned (.tuple #[]) ∧ w' = (w.alloc (.cells #[.slice (some ⟨gr, 0, none⟩) H c] 143)).setCell ⟨G y, x, none⟩ (.int .u8 s) := by
  have h1 := h.below (boxed w (.cells #[.slice (some ⟨gr, 0, none⟩) H c] 143))
  obtain ⟨c1, hc1⟩ := h1.rowcell y hy
  have hc2 := h1.cell y x hy hx
  have hf2 := h1.free y hy x
  have H1 := Lib.hid h1; have H0 := Lib.hid h; clear h h1
  go_enter Try.func129, Try.ntmps129
  go_wp2
  go_end0
  exact ⟨rfl, rfl⟩
end Go.Proofs.Ytkldffpdlkmncaa


set_option linter.unusedVariables false
set_option linter.unusedSimpArgs false
namespace Go.Proofs.Ytkldffpdlkmncaa
open Go.RowKit

/-- the cells behind clear -/
def cleared (z : Value) (n : Nat) (cur : Array Value) : Array Value := ((List.replicate n z) ++ cur.toList.drop n).toArray
theorem cleared_lt {z : Value} {n : Nat} {cur : Array Value} (h : n ≤ cur.size) (i : Nat) (hi : i < n) : (cleared z n cur)[i]? = some z := by
  simp only [cleared, List.getElem?_toArray]
  rw [List.getElem?_append_left (by simpa using hi)]
  simp [List.getElem?_replicate, hi]
theorem zeroCells_one (z : Value) (n : Nat) : (Builtin.zeroCells #[z] n).toList = List.replicate n z := by
  unfold Builtin.zeroCells
  simp only [List.size_toArray, List.length_singleton, Nat.mul_one, Array.toList_map, Array.toList_range]
  apply List.ext_getElem
  · simp
  · intro i h1 h2
    simp [Nat.mod_one]

theorem run_clear_row {P : Program} {w : World} {t ty elem : TypeId} {z : Value} (hu : P.underlying t = some (.slice elem)) (hz : (zeroValue elem).run P w = .ok z w) (hzc : z.cells = #[z]) (h1 : z.oneCell' = true)
    {g n c : Nat} {cur : Array Value} {t' : TypeId} (hg : w.heap[g]? = some (.cells cur t' (0, 0))) (hn : n ≤ cur.size) (hp : 0 < n) :
    (Builtin.clear_ #[t] ty #[.slice (some ⟨g, 0, none⟩) n c]).run P w = .ok (.tuple #[]) (w.setRow g (cleared z n cur)) := by
  have hs := run_storeCells_at P g 0 t' (List.replicate n z) 0 cur w hg (by simpa using hn) (by intro v hv; rw [List.eq_of_mem_replicate hv]; exact h1)
  obtain ⟨m, rfl⟩ : ∃ m, n = m + 1 := ⟨n - 1, by omega⟩
  simp only [Nat.add_zero, List.take_zero, List.nil_append, List.length_replicate, Nat.zero_add] at hs
  have hzl := zeroCells_one z (m + 1)
  simp [Builtin.clear_, run_underlying hu, hz, hzc, hzl, hs, cleared]

theorem wpList_clear {P : Program} {w : World} {ops : Array Oper} {rest : List Oper} {o : Oper} {a : Act} {Q : Exit → Act → World → Prop} (hgd : o.guard = none) (x : Operand) (t elem : TypeId) (z : Value)
    (ho : o.op = .call { callee := .builtin .clear, args := #[x], argTypes := #[t] }) (hu : P.underlying t = some (.slice elem)) (hz : ∀ w, (zeroValue elem).run P w = .ok z w) (hzc : z.cells = #[z]) (h1 : z.oneCell' = true)
    (g n c : Nat) (cur : Array Value) (t' : TypeId) (hx : a.eval x = .slice (some ⟨g, 0, none⟩) n c) (hg : w.heap[g]? = some (.cells cur t' (0, 0))) (hn : n ≤ cur.size) (hp : 0 < n)
    (h : wpList P ops Q rest (a.put o.dst (.tuple #[])) (w.setRow g (cleared z n cur))) : wpList P ops Q (o :: rest) a w := by
  refine wpList_plain hgd fun K hK => ?_
  have hrun := run_clear_row (P := P) (ty := o.type) (c := c) hu (hz w) hzc h1 hg hn hp
  unfold Oper.wp
  simp [execOp, ho, resolve, invoke, builtin, hx, hrun, Result.andThen]
  exact hK _ _ h

theorem bk_row {w : World} {g : Nat} {t : TypeId} {cs cs' : Array Value} (h : w.heap[g]? = some (.cells cs t (0, 0))) : (w.setRow g cs').heap[g]? = some (.cells cs' t (0, 0)) := setRow_heap w g cs cs' t _ h
theorem bk_rowfar {w : World} {g k : Nat} {o : Obj} (h : w.heap[k]? = some o) (hne : k ≠ g) (cs : Array Value) : (w.setRow g cs).heap[k]? = some o := (setRow_other w g k cs hne).trans h
end Go.Proofs.Ytkldffpdlkmncaa

/- Cells kept as bytes: clear. -/
set_option linter.unusedVariables false
set_option linter.unusedSimpArgs false
namespace Go.Proofs.Ytkldffpdlkmncaa
open Go.RowKit

theorem zeroU8 (w : World) : (zeroValue 5).run Try.prog w = .ok (.int .u8 0) w := by kernel_rfl

/-- the first rows are cleared -/
def clrF (k : Nat) (f : Nat → Nat → Int) : Nat → Nat → Int := fun y x => if y < k then 0 else f y x
theorem BytesAt.clr {gr W H : Nat} {f : Nat → Nat → Int} {G : Nat → Nat} {w : World} {k : Nat} (h : BytesAt gr W H (clrF k f) G w) (hk : k < H) {cur : Array Value} (hc : w.heap[G k]? = some (.cells cur 5 (0, 0))) (hW : W ≤ cur.size) :
    BytesAt gr W H (clrF (k + 1) f) G (w.setRow (G k) (cleared (.int .u8 0) W cur)) := by
  refine ⟨?_, fun y hy => ?_, h.inj⟩
  · obtain ⟨c2, h2, r⟩ := h.rows
    refine ⟨c2, bk_rowfar h2 ?_ _, r⟩
    rintro rfl
    rw [h2] at hc
    simp at hc
  · obtain ⟨c2, h2, r⟩ := h.row y hy
    by_cases e : y = k
    · subst e
      refine ⟨_, bk_row hc, fun x hx => ?_⟩
      rw [cleared_lt hW x hx]
      simp [clrF]
    · refine ⟨c2, bk_rowfar h2 (fun e2 => e (h.inj _ _ hy hk e2)) _, fun x hx => ?_⟩
      rw [r x hx]
      simp only [clrF]
      by_cases h3 : y < k
      · rw [if_pos h3, if_pos (by omega)]
      · rw [if_neg h3, if_neg (by omega)]

theorem Wrote.setRow {S : Nat → Prop} {w w' : World} (h : Wrote S w w') {g : Nat} (hg : S g ∨ w.heap.size ≤ g) (cs : Array Value) : Wrote S w (w'.setRow g cs) :=
  ⟨h.os, h.tape, h.output, by simpa [World.setRow] using h.size, fun k hk hn => (setRow_other w' g k cs (fun e => by subst e; rcases hg with hg | hg; exact hn hg; omega)).trans (h.block k hk hn)⟩

end Go.Proofs.Ytkldffpdlkmncaa


set_option linter.unusedVariables false
set_option linter.unusedSimpArgs false
namespace Go.Proofs.Ytkldffpdlkmncaa
open Go.RowKit

/-- the rows' slices, by their blocks -/
def rowsV (W : Nat) (L : List Nat) : List Value := L.map fun g => .slice (some ⟨g, 0, none⟩) W W
def zeros (W : Nat) : Array Value := madeCells #[.int .u8 0] W

/-- rows that are being made: their list lies in the box B -/
structure Made (n₀ B W : Nat) (L : List Nat) (v : Value) (w0 w : World) : Prop where
  box : w.heap[B]? = some (.cells #[v] 143 (0, 0))
  own : w.ownsRow n₀ 32 1 v L.length (rowsV W L)
  rows : ∀ g ∈ L, w.heap[g]? = some (.cells (zeros W) 5 (0, 0))
  nodup : L.Nodup
  ge : ∀ g ∈ L, n₀ ≤ g
  below : Below n₀ w0 w

theorem Made.step {n₀ B W : Nat} {L : List Nat} {v v' : Value} {w0 w w1 w2 : World} (h : Made n₀ B W L v w0 w) (hw : n₀ ≤ w.heap.size)
    (h1 : Below w.heap.size w w1) (hz : w1.heap[w.heap.size]? = some (.cells (zeros W) 5 (0, 0)))
    (hown : w2.ownsRow n₀ 32 1 v' (L.length + 1) (rowsV W L ++ [.slice (some ⟨w.heap.size, 0, none⟩) W W])) (hg : w1.grownBy w2 v.ownBlock) (hBn : n₀ ≤ B) :
    Made n₀ B W (L ++ [w.heap.size]) v' w0 (w2.setCell ⟨B, 0, none⟩ v') := by
  have o1 := own_below h.own h1
  have kB : w2.heap[B]? = some (.cells #[v] 143 (0, 0)) := by
    have := bk_below h.box h1
    exact (hg.block B (bk_lt this) (own_ne o1 this (by decide))).trans this
  refine ⟨bk_eq (bk_set kB 0 _) (by simp), ?_, ?_, ?_, ?_, ?_⟩
  · have e : rowsV W (L ++ [w.heap.size]) = rowsV W L ++ [.slice (some ⟨w.heap.size, 0, none⟩) W W] := by simp [rowsV]
    rw [e, List.length_append, List.length_singleton]
    refine hown.kept (grownBy_setCellB w2 B v') ?_
    exact .inr (own_ne hown kB (by decide)).symm
  · intro g hg'
    have key : w1.heap[g]? = some (.cells (zeros W) 5 (0, 0)) := by
      rcases List.mem_append.1 hg' with hm | hm
      · exact bk_below (h.rows g hm) h1
      · rw [List.mem_singleton.1 hm]; exact hz
    have k2 := (hg.block g (bk_lt key) (own_ne o1 key (by decide))).trans key
    refine bk_far k2 ?_ _
    rintro rfl
    rw [kB] at k2
    simp at k2
  · refine List.nodup_append.2 ⟨h.nodup, by simp, ?_⟩
    intro a ha b hb
    have := bk_lt (h.rows a ha)
    rw [List.mem_singleton.1 hb]; omega
  · intro g hg'
    rcases List.mem_append.1 hg' with hm | hm
    · exact h.ge g hm
    · rw [List.mem_singleton.1 hm]; exact hw
  · refine Below.setCell (p := ⟨B, 0, none⟩) ?_ hBn _
    refine (h.below.trans (h1.mono hw)).grown hg (Nat.le_trans hw h1.size) ?_
    intro k hk
    exact own_block h.own k hk

theorem Made.done {n₀ B W : Nat} {L : List Nat} {v : Value} {w0 w : World} (h : Made n₀ B W L v w0 w) (h0 : 0 < L.length) :
    ∃ gr c, v = .slice (some ⟨gr, 0, none⟩) L.length c ∧ BytesAt gr W L.length (fun _ _ => 0) (fun y => L.getD y 0) w ∧ ∀ b, bytesS gr L.length (fun y => L.getD y 0) b → n₀ ≤ b := by
  rcases h.own.2 with ⟨_, h1⟩ | ⟨gr, cap, cur, rfl, hb, hg, hcap, hn, hz, ht⟩
  · omega
  · refine ⟨gr, cap, rfl, ⟨⟨cur, hg, fun y hy => ⟨W, ?_⟩⟩, fun y hy => ?_, ?_⟩, ?_⟩
    · have : (rowsV W L)[y]? = some (.slice (some ⟨L.getD y 0, 0, none⟩) W W) := by simp [rowsV, List.getElem?_eq_getElem hy, List.getD]
      rw [← ht, List.getElem?_take_of_lt (by omega)] at this
      simpa using this
    · have hm : L.getD y 0 ∈ L := by simp [List.getD, List.getElem?_eq_getElem hy]
      exact ⟨_, h.rows _ hm, fun x hx => by unfold zeros; exact made_at (z := .int .u8 0) rfl _ _ hx⟩
    · intro y y' hy hy' e
      simp only [List.getD, List.getElem?_eq_getElem hy, List.getElem?_eq_getElem hy', Option.getD_some] at e
      exact (List.getElem_inj h.nodup).1 e
    · rintro b (rfl | ⟨y, hy, rfl⟩)
      · exact hb
      · exact h.ge _ (by simp [List.getD, List.getElem?_eq_getElem hy])
end Go.Proofs.Ytkldffpdlkmncaa


set_option linter.unusedVariables false
set_option linter.unusedSimpArgs false
namespace Go.Proofs.Ytkldffpdlkmncaa
open Go.RowKit

theorem u8info : (Try.prog.info? 5).map (fun i => (i.zero, i.size, i.bytes)) = some (some (.int .u8 0), 1, 1) := by kernel_rfl
theorem rowinfo : (Try.prog.info? 32).map (fun i => (i.zero, i.size, i.bytes)) = some (some (.slice none 0 0), 1, 24) := by kernel_rfl

set_option maxRecDepth 20000 in
set_option maxHeartbeats 2000000 in
theorem bfresh (W H : Nat) (St : Int) (w : World) (hW0 : 0 < W) (hW : W ≤ 65536) (hH0 : 0 < H) (hH : H ≤ 65536) :
    Calls Try.prog 56 #[.agg #[.int .i64 W, .int .i64 H, .int .i64 St], .bool false] w fun e w' => ∃ gr c G, e = .returned (.iface 143 (.agg #[.slice (some ⟨gr, 0, none⟩) H c])) ∧
      BytesAt gr W H (fun _ _ => 0) G w' ∧ (∀ b, bytesS gr H G b → w.heap.size ≤ b) ∧ Below w.heap.size w w' := by
  obtain ⟨i0, hi0, hz0, hz1, hz2⟩ := info_parts rowinfo
  have hmk := run_makeN (P := Try.prog) Try.underlying32 u8info W (by omega) (by omega)
  have KS := bk_alloc (bk_newn w (.cells #[.int .i64 W, .int .i64 H, .int .i64 St] 27) w.heap.size rfl) (.cells #[.slice none 0 0] 143)
  have KB := bk_newn (w.alloc (.cells #[.int .i64 W, .int .i64 H, .int .i64 St] 27)) (.cells #[.slice none 0 0] 143) (w.heap.size + 1) (by simp)
  have hBw : Below w.heap.size w ((w.alloc (.cells #[.int .i64 W, .int .i64 H, .int .i64 St] 27)).alloc (.cells #[.slice none 0 0] 143)) := (boxed _ _).alloc (by simp) _
  go_enter Try.func56, Try.ntmps56
  go_wp2_with (first | fail)
  generalize ((w.alloc (.cells #[.int .i64 W, .int .i64 H, .int .i64 St] 27)).alloc (.cells #[.slice none 0 0] 143)) = W0 at *
  go_loopw [33] (fun i wr => ∃ (k : Nat) (L : List Nat) (v : Value), i = .int .i64 k ∧ k ≤ H ∧ Hid (L.length = k) ∧ wr.heap[w.heap.size]? = some (.cells #[.int .i64 W, .int .i64 H, .int .i64 St] 27 (0, 0)) ∧ Hid (Made w.heap.size (w.heap.size + 1) W L v w wr)) (fun i _ => H - (intOf i).toNat)
  case atStart => exact ⟨0, [], .slice none 0 0, rfl, Nat.zero_le _, rfl, KS, ⟨KB, World.ownsRow_nil _ _ _ _, by simp, by simp, by simp, hBw⟩⟩
  clear KS KB hBw
  obtain ⟨k, L, v, rfl, hk, HL, KS, HM⟩ := hrel
  by_cases hlt : k < H
  · have hcS := bk_cell KS
    have hcB := bk_cell HM.out.box
    have hfB := bk_free HM.out.box
    have hsz := HM.out.below.size
    have hb1 := bk_lt HM.out.box
    have ag := own_ne HM.out.own HM.out.box (by decide)
    have as' := own_ne HM.out.own KS (by decide)
    have hcB1 := bk_cell (bk_alloc HM.out.box (.cells (madeCells #[.int .u8 0] W) 5))
    have hcB2 := bk_cell (bk_alloc (bk_alloc HM.out.box (.cells (madeCells #[.int .u8 0] W) 5)) (.cells #[.slice (some ⟨wr.heap.size, 0, none⟩) W W] 32))
    go_wp2_with (first | fail)
    go_region_law
      ((refine step_append_lies _ (by rfl) _ _ _ (by rfl) w.heap.size 32 i0 _ 1 24 Try.underlying141 hi0 hz0 hz1 hz2 rfl (by omega) v L.length (rowsV W L) (by rfl) (((HM.out.own.alloc _).alloc _).drew) ⟨wr.heap.size + 1, 0, none⟩ 1 1 [.slice (some ⟨wr.heap.size, 0, none⟩) W W] (by rfl) (by rfl) (World.news_of_block (cs := #[.slice (some ⟨wr.heap.size, 0, none⟩) W W]) (t := 32) (fr := (0, 0)) (bk_drew (bk_newn _ _ (wr.heap.size + 1) (by simp)))) (by simp [Value.oneCell']) (by omega) (by have := HL.out; unfold maxLen; omega) (by have := HL.out; omega) (by simp; omega) (wr.heap.size + 1 + 1) (by simp) ?_; intro gg cap w1 hown1 hgrow hat hlt1; have kB : w1.heap[w.heap.size + 1]? = some (.cells #[v] 143 (0, 0)) := (hgrow.block _ (by simp; omega) ag).trans (bk_drew (bk_alloc (bk_alloc HM.out.box _) _)); have hcx := bk_cell kB; have hfx := bk_free kB; have kS : w1.heap[w.heap.size]? = some (.cells #[.int .i64 W, .int .i64 H, .int .i64 St] 27 (0, 0)) := (hgrow.block _ (by simp; omega) as').trans (bk_drew (bk_alloc (bk_alloc KS _) _)); have hcy := bk_cell kS))
    all_goals
      have hR := Lib.hid (HM.out.step (w1 := ((wr.alloc (.cells (zeros W) 5)).alloc (.cells #[.slice (some ⟨wr.heap.size, 0, none⟩) W W] 32)).drew) (by omega) (((boxed _ _).alloc (by simp) _).drew) (bk_drew (bk_alloc (bk_new wr _) _)) hown1 hgrow (by omega))
      have kS2 := bk_far kS (p := ⟨w.heap.size + 1, 0, none⟩) (by simp) (.slice (some ⟨gg, 0, none⟩) (L.length + 1) cap)
      have HL2 : Hid ((L ++ [wr.heap.size]).length = k + 1) := by show (L ++ [wr.heap.size]).length = k + 1; rw [List.length_append, HL.out]; rfl
      clear hown1 hgrow hat hlt1 kB hcx hfx kS hcy hcB1 hcB2 hcB hfB hcS HM KS HL
      go_wp2
      go_roundw
      case rel => exact ⟨k + 1, _, _, by go_num, by omega, HL2, kS2, hR⟩
      case measure => simp [intOf]; omega
  · obtain rfl : k = H := by omega
    obtain ⟨gr, c, rfl, hby, hge⟩ := HM.out.done (by rw [HL.out]; exact hH0)
    rw [HL.out] at hby hge
    have hbl := HM.out.below
    have hcB := bk_cell HM.out.box
    rw [HL.out] at hcB
    clear HM KS
    have HBY := Lib.hid hby; have HGE := Lib.hid hge; clear hby hge
    go_wp2
    go_ret
    exact ⟨gr, c, _, rfl, HBY.out, HGE.out, hbl⟩
end Go.Proofs.Ytkldffpdlkmncaa

/- A store of bytes, copied. -/
set_option linter.unusedVariables false
set_option linter.unusedSimpArgs false
namespace Go.Proofs.Ytkldffpdlkmncaa
open Go.RowKit

/-- a row's cells -/
def rowL (W : Nat) (f : Nat → Nat → Int) (y : Nat) : List Value := (List.range W).map fun x => .int .u8 (f y x)
theorem rowL_length (W : Nat) (f : Nat → Nat → Int) (y : Nat) : (rowL W f y).length = W := by simp [rowL]
theorem rowL_at {W : Nat} {f : Nat → Nat → Int} {y x : Nat} (h : x < W) : (rowL W f y)[x]? = some (.int .u8 (f y x)) := by simp [rowL, h]
theorem rowL_one (W : Nat) (f : Nat → Nat → Int) (y : Nat) : ∀ u ∈ rowL W f y, u.oneCell' = true := by
  intro u hu
  obtain ⟨x, _, rfl⟩ := List.mem_map.1 hu
  rfl

/-- rows that are being copied -/
structure Copied (n₀ gr W H : Nat) (f : Nat → Nat → Int) (L : List Nat) (w0 w : World) : Prop where
  rows : ∃ cur, w.heap[gr]? = some (.cells cur 32 (0, 0)) ∧ cur.size = H ∧ ∀ y, y < L.length → ∃ c, cur[y]? = some (.slice (some ⟨L.getD y 0, 0, none⟩) W c)
  row : ∀ y, y < L.length → ∃ cur, w.heap[L.getD y 0]? = some (.cells cur 5 (0, 0)) ∧ ∀ x, x < W → cur[x]? = some (.int .u8 (f y x))
  nodup : L.Nodup
  ge : ∀ g ∈ L, n₀ ≤ g
  lt : ∀ g ∈ L, g < w.heap.size
  below : Below n₀ w0 w

theorem getD_app {L : List Nat} {y g : Nat} (h : y < L.length) : (L ++ [g]).getD y 0 = L.getD y 0 := by
  simp [List.getD, List.getElem?_append_left h]
theorem getD_last {L : List Nat} {g : Nat} : (L ++ [g]).getD L.length 0 = g := by
  simp [List.getD]
theorem getD_mem {L : List Nat} {y : Nat} (h : y < L.length) : L.getD y 0 ∈ L := by
  simp [List.getD, List.getElem?_eq_getElem h]

theorem Copied.step {n₀ gr W H : Nat} {f : Nat → Nat → Int} {L : List Nat} {w0 w w1 : World} {c : Nat} (h : Copied n₀ gr W H f L w0 w) (hw : n₀ ≤ w.heap.size) (hgr : n₀ ≤ gr)
    (h1 : Below w.heap.size w w1) (hown : w1.ownsRow n₀ 5 1 (.slice (some ⟨w.heap.size, 0, none⟩) W c) W (rowL W f L.length)) (hlt : L.length < H) :
    Copied n₀ gr W H f (L ++ [w.heap.size]) w0 (w1.setCell ⟨gr, L.length, none⟩ (.slice (some ⟨w.heap.size, 0, none⟩) W c)) := by
  obtain ⟨cur, hc, hsz, hr⟩ := h.rows
  have kn : ∃ cur, w1.heap[w.heap.size]? = some (.cells cur 5 (0, 0)) ∧ ∀ x, x < W → cur[x]? = some (.int .u8 (f L.length x)) := by
    rcases hown.2 with ⟨h0, _⟩ | ⟨g, cap, cu, hv, _, hg, hcap, _, hz, ht⟩
    · cases h0
    · injection hv with hv1 _ _
      simp at hv1
      subst hv1
      refine ⟨cu, hg, fun x hx => ?_⟩
      have := rowL_at (f := f) (y := L.length) hx
      rw [← ht, List.getElem?_take_of_lt (by omega)] at this
      simpa using this
  obtain ⟨cn, hn, hnr⟩ := kn
  have hgne : ∀ y, y < L.length → L.getD y 0 ≠ w.heap.size := fun y hy e => by have := h.lt _ (getD_mem hy); omega
  have hc1 := bk_below hc h1
  have hne1 : w.heap.size ≠ gr := by have := bk_lt hc; omega
  refine ⟨⟨_, bk_set hc1 L.length _, by simpa using hsz, fun y hy => ?_⟩, fun y hy => ?_, ?_, ?_, ?_, ?_⟩
  · rw [List.length_append, List.length_singleton] at hy
    by_cases e : y = L.length
    · subst e
      exact ⟨c, by rw [getD_last]; simp [hsz, hlt]⟩
    · obtain ⟨c', hc'⟩ := hr y (by omega)
      exact ⟨c', by rw [getD_app (by omega)]; simp [Array.getElem?_setIfInBounds, Ne.symm e, hc']⟩
  · rw [List.length_append, List.length_singleton] at hy
    by_cases e : y = L.length
    · subst e
      rw [getD_last]
      exact ⟨cn, bk_far hn hne1 _, hnr⟩
    · rw [getD_app (by omega)]
      obtain ⟨cu, hcu, hru⟩ := h.row y (by omega)
      refine ⟨cu, bk_far (bk_below hcu h1) ?_ _, hru⟩
      intro e2
      have e2 : L.getD y 0 = gr := e2
      rw [e2, hc] at hcu
      simp at hcu
  · refine List.nodup_append.2 ⟨h.nodup, by simp, ?_⟩
    intro a ha b hb
    have := h.lt a ha
    rw [List.mem_singleton.1 hb]; omega
  · intro g hg
    rcases List.mem_append.1 hg with hm | hm
    · exact h.ge g hm
    · rw [List.mem_singleton.1 hm]; exact hw
  · intro g hg
    have : (w1.setCell ⟨gr, L.length, none⟩ (.slice (some ⟨w.heap.size, 0, none⟩) W c)).heap.size = w1.heap.size := by simp [World.setCell]
    rw [this]
    have h2 := bk_lt hn
    rcases List.mem_append.1 hg with hm | hm
    · have := h.lt g hm; have := h1.size; omega
    · rw [List.mem_singleton.1 hm]; exact h2
  · exact (h.below.trans (h1.mono hw)).setCell (p := ⟨gr, L.length, none⟩) hgr _

theorem Copied.done {n₀ gr W : Nat} {f : Nat → Nat → Int} {L : List Nat} {w0 w : World} (h : Copied n₀ gr W L.length f L w0 w) (hgr : n₀ ≤ gr) :
    BytesAt gr W L.length f (fun y => L.getD y 0) w ∧ ∀ b, bytesS gr L.length (fun y => L.getD y 0) b → n₀ ≤ b := by
  refine ⟨⟨let ⟨cur, hc, _, hr⟩ := h.rows; ⟨cur, hc, hr⟩, h.row, fun y y' hy hy' e => ?_⟩, ?_⟩
  · simp only [List.getD, List.getElem?_eq_getElem hy, List.getElem?_eq_getElem hy', Option.getD_some] at e
    exact (List.getElem_inj h.nodup).1 e
  · rintro b (rfl | ⟨y, hy, rfl⟩)
    · exact hgr
    · exact h.ge _ (getD_mem hy)

end Go.Proofs.Ytkldffpdlkmncaa
