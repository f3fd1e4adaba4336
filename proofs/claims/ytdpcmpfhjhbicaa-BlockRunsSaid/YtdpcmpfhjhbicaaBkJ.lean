/- A generation: the cells of a block are read, and made others. -/
import Derived.Test.YtdpcmpfhjhbicaaBkI
import Derived.Test.YtdpcmpfhjhbicaaFSm
import Derived.Test.YtdpcmpfhjhbicaaFMid
import Derived.Deep.RegionHeld3
import Derived.Deep.DeepCutAuto
set_option linter.unusedVariables false
set_option linter.unusedSimpArgs false
namespace Go.Proofs.Ytdpcmpfhjhbicaa
open Go.RowKit Go.Viv

/-- a list of one's own stays, if what is written lies ahead of it -/
theorem own_wrote {S : Nat → Prop} {w w' : World} {base size n : Nat} {e : TypeId} {v : Value} {xs : List Value} (h : w.ownsRow base e size v n xs) (hw : Wrote S w w') (hS : ∀ b, S b → b < base) : w'.ownsRow base e size v n xs := by
  refine ⟨h.1, ?_⟩
  rcases h.2 with h0 | ⟨g, cap, cur, hv, hbg, hg, r⟩
  · exact .inl h0
  · exact .inr ⟨g, cap, cur, hv, hbg, (hw.block g (bk_lt hg) fun hb => by have := hS g hb; omega).trans hg, r⟩
/-- field's numbers for a run -/
theorem put_in {D : FD} {x y : Nat} {s : Int} (hx : x < D.W) (hy : y < D.H) (hs : s < D.St) : D.put x y s = { D with f := putC D.f (x, y) s } := by
  unfold FD.put
  rw [if_pos (hasB_yes (by omega) (by omega) (by omega) (by omega)), if_pos hs]
  rfl
theorem get_in {D : FD} {x y : Nat} (hx : x < D.W) (hy : y < D.H) : getV D x y = .tuple #[.int .u8 (at_ D.f (x, y)), .int .i64 0] := by
  unfold getV
  rw [if_pos (hasB_yes (by omega) (by omega) (by omega) (by omega))]
  rfl

theorem keepT {b : Nat} {k W H t s : Int} {T : TypeId} {w w2 : World} (h : w.heap[b]? = some (.cells #[.int .u8 k, .int .i64 W, .int .i64 H, .int .u8 t, .int .i64 s] T (0, 0))) (hb : Below w.heap.size w w2) :
    w2.cell? ⟨b, 0, none⟩ = some (.int .u8 k) ∧ w2.cell? ⟨b, 1, none⟩ = some (.int .i64 W) ∧ w2.cell? ⟨b, 2, none⟩ = some (.int .i64 H) ∧ w2.cell? ⟨b, 3, none⟩ = some (.int .u8 t) ∧ w2.cell? ⟨b, 4, none⟩ = some (.int .i64 s) ∧ Below w.heap.size w w2 := by
  have h2 := bk_below h hb
  exact ⟨bk_cell h2 0, bk_cell h2 1, bk_cell h2 2, bk_cell h2 3, bk_cell h2 4, hb⟩
theorem nextS {w w1 w2 : World} {p1 p2 p3 p4 p5 : Prop} (hb1 : Below w1.heap.size w1 w2) (hb : p1 ∧ p2 ∧ p3 ∧ p4 ∧ p5 ∧ Below w.heap.size w w1) : Below w.heap.size w w2 := next hb.2.2.2.2.2 hb1

theorem own_mono {w : World} {base base' size n : Nat} {e : TypeId} {v : Value} {xs : List Value} (h : w.ownsRow base e size v n xs) (hb : base' ≤ base) : w.ownsRow base' e size v n xs := by
  refine ⟨h.1, ?_⟩
  rcases h.2 with h0 | ⟨g, cap, cur, hv, hbg, r⟩
  · exact .inl h0
  · exact .inr ⟨g, cap, cur, hv, by omega, r⟩
theorem own_set {w : World} {base size n g i : Nat} {e t : TypeId} {v u : Value} {xs : List Value} {cs : Array Value} (h : w.ownsRow base e size v n xs) (hg : w.heap[g]? = some (.cells cs t (0, 0))) (hne : e ≠ t) : (w.setCell ⟨g, i, none⟩ u).ownsRow base e size v n xs := by
  have hn := own_ne h hg hne
  refine ⟨h.1, ?_⟩
  rcases h.2 with h0 | ⟨g', cap, cur, hv, hbg, hh, r⟩
  · exact .inl h0
  · refine .inr ⟨g', cap, cur, hv, hbg, bk_far hh ?_ _, r⟩
    rintro rfl
    rw [hv] at hn
    simp [Value.ownBlock] at hn

/-- the blocks of both kinds of generations, as they lie -/
structure WayAt (k W H t s : Int) (wn hn : Nat) (B bw : Nat) (v0 v1 : Value) (n0 n1 : Nat) (w2 w : World) : Prop where
  way : w.heap[bw]? = some (.cells #[v0, v1] 84 (0, 0))
  ge : B ≤ bw
  o0 : w.ownsRow B 88 8 v0 n0 (toV k W H t s 0 wn hn)
  o1 : w.ownsRow B 88 8 v1 n1 (toV k W H t s 1 wn hn)
  l0 : n0 * 8 = (toV k W H t s 0 wn hn).length
  l1 : n1 * 8 = (toV k W H t s 1 wn hn).length
  b0 : n0 ≤ 1048576
  b1 : n1 ≤ 1048576
  below : Below B w2 w
section
variable {k W H t s : Int} {wn hn B B0 B1 bw n0 n1 : Nat} {v0 v1 x y : Value} {w2 wb : World}
theorem way1 (h0 : wb.ownsRow B0 88 8 v0 n0 (toV k W H t s 0 wn hn)) (h1 : wb.ownsRow B1 88 8 v1 n1 (toV k W H t s 1 wn hn)) (hB0 : B ≤ B0) (hB1 : B ≤ B1) (hl0 : n0 * 8 = (toV k W H t s 0 wn hn).length) (hl1 : n1 * 8 = (toV k W H t s 1 wn hn).length) (hb0 : n0 ≤ 1048576) (hb1 : n1 ≤ 1048576) (hacc : Below B w2 wb) (hB : B ≤ wb.heap.size) :
    WayAt k W H t s wn hn B wb.heap.size v0 v1 n0 n1 w2 (wb.alloc (.cells #[v0, v1] 84)) :=
  ⟨bk_new _ _, hB, own_mono (own_below h0 (boxed _ _)) hB0, own_mono (own_below h1 (boxed _ _)) hB1, hl0, hl1, hb0, hb1, hacc.alloc hB _⟩
theorem way2 (K : wb.heap[bw]? = some (.cells #[x, y] 84 (0, 0))) (h0 : wb.ownsRow B0 88 8 v0 n0 (toV k W H t s 0 wn hn)) (h1 : wb.ownsRow B1 88 8 v1 n1 (toV k W H t s 1 wn hn)) (hB0 : B ≤ B0) (hB1 : B ≤ B1) (hl0 : n0 * 8 = (toV k W H t s 0 wn hn).length) (hl1 : n1 * 8 = (toV k W H t s 1 wn hn).length) (hb0 : n0 ≤ 1048576) (hb1 : n1 ≤ 1048576) (hacc : Below B w2 wb) (hB : B ≤ bw) :
    WayAt k W H t s wn hn B bw v0 v1 n0 n1 w2 ((wb.setCell ⟨bw, 0, none⟩ v0).setCell ⟨bw, 1, none⟩ v1) := by
  have K1 := bk_set K 0 v0
  refine ⟨bk_eq (bk_set K1 1 v1) (by simp), hB, own_mono (own_set (own_set h0 K (by decide)) K1 (by decide)) hB0, own_mono (own_set (own_set h1 K (by decide)) K1 (by decide)) hB1, hl0, hl1, hb0, hb1, ?_⟩
  exact (hacc.setCell (p := ⟨bw, 0, none⟩) hB _).setCell (p := ⟨bw, 1, none⟩) hB _
end

theorem or_small : ∀ m, m < 4 → ∀ a, a < 2 ^ m → ∀ s, s < 2 → bits BinOp.or IntKind.i64 (a : Nat) (((s * 2 ^ m : Nat)) : Int) = ((a + s * 2 ^ m : Nat) : Int) := by decide
theorem and8 : ∀ n, n < 16 → bits BinOp.and IntKind.u8 (n : Nat) 1 = ((n % 2 : Nat) : Int) := by decide
theorem and64 (x : Int) (h0 : 0 ≤ x) (h : x < 9223372036854775808) : bits BinOp.and IntKind.i64 x 1 = x % 2 := by
  have h := bits_mask .i64 63 (by decide) (fun n h0 h1 => by rw [show (2 : Int) ^ 63 = 9223372036854775808 by decide] at h1; rw [IntKind.wrap_i64]; omega) 1 (by decide) x h0 (by rw [show (2 : Int) ^ 63 = 9223372036854775808 by decide]; omega)
  have e : ((2 : Int) ^ 1 - 1) = 1 := by decide
  rw [e] at h
  rw [h]
  omega
structure AskOk (b : List Int) (k W H t s : Int) (D : FD) (gen n : Int) : Prop where
  c : checkB b = 0
  g : gridE k W H t s = 0
  g0 : 0 ≤ gen
  g1 : gen ≤ 1125899906842624
  w : W = D.W
  h : H = D.H
  st : D.St ≤ 2
  n0 : 0 ≤ gen + n
  n1 : gen + n ≤ 1125899906842624
  turns : n < 0 → turnsB b = true
  q0 : n ≤ 67108864 / (W * H)
  q1 : -n ≤ 67108864 / (W * H)
theorem askOk_of {b : List Int} {k W H t s gen n : Int} {D : FD} (h : askE b k W H t s D gen n = 0) : AskOk b k W H t s D gen n := by
  unfold askE at h
  split at h
  · omega
  split at h
  · omega
  split at h
  · omega
  split at h
  · omega
  split at h
  · omega
  split at h
  · omega
  split at h
  · omega
  split at h
  · omega
  split at h
  · omega
  · rename_i h1 h2 h3 h4 h5 h6 h7 h8 h9
    have hs : spanE gen n = 0 := by omega
    unfold spanE at hs
    split at hs
    · omega
    split at hs
    · omega
    · rename_i s1 s2
      refine ⟨by omega, by omega, by omega, by omega, by omega, by omega, by omega, by omega, by omega, fun hn => ?_, by omega, by omega⟩
      cases ht : turnsB b
      · exact absurd ⟨hn, ht⟩ h8
      · rfl

theorem keepW {S' : Nat → Prop} {WX w' : World} {pb ka φ : Nat} {x y v : Value} {r : List Int} {T T2 : TypeId} {P : Prop} (KP : WX.heap[pb]? = some (.cells #[x, y] T (0, 0))) (KA : WX.heap[ka]? = some (.cells (arr r) T2 (0, 0))) (hv : (arr r)[φ]? = some v) (n1 : ¬ S' pb) (n2 : ¬ S' ka) (hw : Wrote S' WX w') (hd : P) :
    w'.cell? ⟨pb, 0, none⟩ = some x ∧ w'.cell? ⟨pb, 1, none⟩ = some y ∧ w'.cell? ⟨ka, φ, none⟩ = some v ∧ Wrote S' WX w' ∧ P := by
  have k1 := (hw.block pb (bk_lt KP) n1).trans KP
  have k2 := (hw.block ka (bk_lt KA) n2).trans KA
  exact ⟨bk_cell k1 0, bk_cell k1 1, (bk_cell k2 φ).trans hv, hw, hd⟩
theorem nextW {S' : Nat → Prop} {WX w1 w2 : World} {p1 p2 p3 P : Prop} (hw : Wrote S' w1 w2) (h : p1 ∧ p2 ∧ p3 ∧ Wrote S' WX w1 ∧ P) : Wrote S' WX w2 := h.2.2.2.1.trans hw

/-- a run on its way -/
structure RunSt (k W H t s : Int) (wn hn : Nat) (r : List Int) (g' : Nat) (D : FD) (S' : Nat → Prop) (F : Nat → Nat → Int) (B bw : Nat) (v0 v1 : Value) (n0 n1 : Nat) (w wr : World) : Prop where
  f : Fld g' { D with f := F } S' wr
  a : wr.heap[w.heap.size]? = some (.cells (arr r) 23 (0, 0))
  way : wr.heap[bw]? = some (.cells #[v0, v1] 84 (0, 0))
  o0 : wr.ownsRow B 88 8 v0 n0 (toV k W H t s 0 wn hn)
  o1 : wr.ownsRow B 88 8 v1 n1 (toV k W H t s 1 wn hn)
  below : Below w.heap.size w wr
  ge : B ≤ bw
  s1 : ∀ b, S' b → b < B
  s2 : ∀ b, S' b → w.heap.size < b
section
variable {k W H t s : Int} {wn hn B bw n0 n1 g' : Nat} {v0 v1 : Value} {w wr wr' : World} {r : List Int} {D : FD} {S' : Nat → Prop} {F F' : Nat → Nat → Int}
theorem RunSt.later (h : RunSt k W H t s wn hn r g' D S' F B bw v0 v1 n0 n1 w wr) (hb : Below wr.heap.size wr wr') : RunSt k W H t s wn hn r g' D S' F B bw v0 v1 n0 n1 w wr' :=
  ⟨h.f.below hb, bk_below h.a hb, bk_below h.way hb, own_below h.o0 hb, own_below h.o1 hb, h.below.trans (hb.mono h.below.size), h.ge, h.s1, h.s2⟩
theorem RunSt.wrote (h : RunSt k W H t s wn hn r g' D S' F B bw v0 v1 n0 n1 w wr) (hw : Wrote S' wr wr') (hf : Fld g' { D with f := F' } S' wr') : RunSt k W H t s wn hn r g' D S' F' B bw v0 v1 n0 n1 w wr' :=
  ⟨hf, (hw.block _ (bk_lt h.a) fun hs => Nat.lt_irrefl _ (h.s2 _ hs)).trans h.a, (hw.block _ (bk_lt h.way) fun hs => by have := h.s1 _ hs; have := h.ge; omega).trans h.way, own_wrote h.o0 hw h.s1, own_wrote h.o1 hw h.s1,
    h.below.trans (hw.below h.below.size fun b hb => Nat.le_of_lt (h.s2 b hb)), h.ge, h.s1, h.s2⟩
end

/-- the first m bits of a block's number -/
def frTo (F : Nat → Nat → Int) (B : Blk) : Nat → Int
  | 0 => 0
  | 1 => at_ F B.a
  | 2 => at_ F B.a + 2 * at_ F B.b
  | 3 => at_ F B.a + 2 * at_ F B.b + 4 * at_ F B.c
  | _ => frm F B
/-- the first m cells of a block are made others -/
def wrTo (F : Nat → Nat → Int) (B : Blk) (n : Int) : Nat → Nat → Nat → Int
  | 0 => F
  | 1 => putC F B.a (n % 2)
  | 2 => putC (putC F B.a (n % 2)) B.b (n / 2 % 2)
  | 3 => putC (putC (putC F B.a (n % 2)) B.b (n / 2 % 2)) B.c (n / 4 % 2)
  | _ => wrB F B n
def blkNth (B : Blk) : Nat → Cl
  | 0 => B.a
  | 1 => B.b
  | 2 => B.c
  | _ => B.d
theorem frTo_succ (F : Nat → Nat → Int) (B : Blk) (m : Nat) (hm : m < 4) : frTo F B (m + 1) = frTo F B m + at_ F (blkNth B m) * 2 ^ m := by
  have : m = 0 ∨ m = 1 ∨ m = 2 ∨ m = 3 := by omega
  rcases this with rfl | rfl | rfl | rfl <;> simp [frTo, frm, blkNth] <;> omega
theorem blkNth_mem (B : Blk) (m : Nat) : blkNth B m ∈ B.cells := by
  unfold blkNth
  split <;> simp [Blk.cells]
theorem frTo_nat {F : Nat → Nat → Int} {B : Blk} (h : ∀ p ∈ B.cells, at_ F p = 0 ∨ at_ F p = 1) (m : Nat) (hm : m ≤ 4) : ∃ φ : Nat, frTo F B m = (φ : Int) ∧ φ < 2 ^ m := by
  have h1 := h B.a (by simp [Blk.cells]); have h2 := h B.b (by simp [Blk.cells]); have h3 := h B.c (by simp [Blk.cells]); have h4 := h B.d (by simp [Blk.cells])
  have : m = 0 ∨ m = 1 ∨ m = 2 ∨ m = 3 ∨ m = 4 := by omega
  rcases this with rfl | rfl | rfl | rfl | rfl
  · exact ⟨0, rfl, by decide⟩
  · exact ⟨(at_ F B.a).toNat, by simp only [frTo]; omega, by omega⟩
  · exact ⟨(at_ F B.a + 2 * at_ F B.b).toNat, by simp only [frTo]; omega, by omega⟩
  · exact ⟨(at_ F B.a + 2 * at_ F B.b + 4 * at_ F B.c).toNat, by simp only [frTo]; omega, by omega⟩
  · exact ⟨(frm F B).toNat, by simp only [frTo, frm]; omega, by unfold frm; omega⟩
theorem flat8 {L : List Blk} {q : Nat} {Bq : Blk} (h : L[q]? = some Bq) (i : Nat) (hi : i < 8) : (L.flatMap cellsV)[q * 8 + i]? = (cellsV Bq)[i]? := by
  induction L generalizing q with
  | nil => simp at h
  | cons B L ih =>
    rw [List.flatMap_cons]
    cases q with
    | zero =>
      have : B = Bq := by simpa using h
      subst this
      rw [Nat.zero_mul, Nat.zero_add, List.getElem?_append_left (by simp [cellsV, ptV]; omega)]
    | succ q =>
      have h8 : (cellsV B).length = 8 := rfl
      rw [List.getElem?_append_right (by rw [h8]; omega), h8, show (q + 1) * 8 + i - 8 = q * 8 + i by omega]
      exact ih (by simpa using h)
theorem flat_len (L : List Blk) : (L.flatMap cellsV).length = L.length * 8 := by
  induction L with
  | nil => rfl
  | cons B L ih => rw [List.flatMap_cons, List.length_append, ih]; simp [cellsV, ptV]; omega
/-- a block, read out of the list of blocks -/
theorem own_blk {w : World} {base n c : Nat} {e : TypeId} {A : Option Addr} {L : List Blk} {q : Nat} {Bq : Blk} (h : w.ownsRow base e 8 (.slice A n c) n (L.flatMap cellsV)) (hq : L[q]? = some Bq) :
    ∃ gl, A = some ⟨gl, 0, none⟩ ∧ ∀ i v, i < 8 → (cellsV Bq)[i]? = some v → w.cell? ⟨gl, q * 8 + i, none⟩ = some v := by
  have hlen : (L.flatMap cellsV).length = n * 8 := h.1
  have h1 := (List.getElem?_eq_some_iff.1 hq).1
  rw [flat_len] at hlen
  rcases h.2 with ⟨hv, hx⟩ | ⟨gl, cap, cur, hv, hb, hg, hn, hc, hs, ht⟩
  · omega
  · injection hv with hA
    refine ⟨gl, hA, fun i v hi hv => ?_⟩
    rw [bk_cell hg]
    have h3 := flat8 hq i hi
    rw [hv, ← ht] at h3
    have h5 : q * 8 + i < n * 8 := by omega
    rw [List.getElem?_take_of_lt h5] at h3
    simpa using h3
theorem own_setRow {w : World} {base size n g : Nat} {e t : TypeId} {v : Value} {xs : List Value} {cs cs' : Array Value} (h : w.ownsRow base e size v n xs) (hg : w.heap[g]? = some (.cells cs t (0, 0))) (hne : e ≠ t) : (w.setRow g cs').ownsRow base e size v n xs := by
  have hn := own_ne h hg hne
  refine ⟨h.1, ?_⟩
  rcases h.2 with h0 | ⟨g', cap, cur, hv, hbg, hh, r⟩
  · exact .inl h0
  · refine .inr ⟨g', cap, cur, hv, hbg, bk_rowfar hh ?_ _, r⟩
    rintro rfl
    rw [hv] at hn
    simp [Value.ownBlock] at hn
theorem RunSt.setRow {k W H t s : Int} {wn hn B bw n0 n1 g' : Nat} {v0 v1 : Value} {w wr : World} {r r' : List Int} {D : FD} {S' : Nat → Prop} {F : Nat → Nat → Int} (h : RunSt k W H t s wn hn r g' D S' F B bw v0 v1 n0 n1 w wr) (hBw : w.heap.size < B) : RunSt k W H t s wn hn r' g' D S' F B bw v0 v1 n0 n1 w (wr.setRow w.heap.size (arr r')) :=
  ⟨h.f.keep fun b hb => setRow_other _ _ _ _ (fun e => by have := h.s2 b hb; omega), bk_row h.a, bk_rowfar h.way (by have := h.ge; omega) _, own_setRow h.o0 h.a (by decide), own_setRow h.o1 h.a (by decide), below_setRow h.below (Nat.le_refl _) _, h.ge, h.s1, h.s2⟩
theorem bwd_snoc (r : List Int) (L : Int → List Blk) : ∀ (j : Nat) (g : Int) (f : Nat → Nat → Int), bwd r L (j + 1) g f = genM r (L ((g - j - 1) % 2)) (bwd r L j g f)
  | 0, g, f => by simp [bwd]
  | j + 1, g, f => by
    show bwd r L (j + 1) (g - 1) (genM r (L ((g - 1) % 2)) f) = genM r (L ((g - ((j + 1 : Nat) : Int) - 1) % 2)) (bwd r L j (g - 1) (genM r (L ((g - 1) % 2)) f))
    rw [bwd_snoc r L j, show g - 1 - (j : Int) - 1 = g - ((j + 1 : Nat) : Int) - 1 by omega]
/-- what Run comes to, if it makes a field -/
def RunP (D : FD) (F : Nat → Nat → Int) (w : World) (e : Ending) (w' : World) : Prop := ∃ g' S', e = .returned (.tuple #[.pointer (some ⟨g', 0, none⟩), .int .i64 0]) ∧ Fld g' { D with f := F } S' w' ∧ (∀ b, S' b → w.heap.size < b) ∧ Below w.heap.size w w'
end Go.Proofs.Ytdpcmpfhjhbicaa
