/- What a generation's walk needs (once): places, cells in a row. -/
import Derived.Test.YtdpcmpfhjhbicaaBkRw
import Derived.Test.YtdpcmpfhjhbicaaBkHo
import Derived.Test.YtdpcmpfhjhbicaaBkN
set_option linter.unusedVariables false
set_option linter.unusedSimpArgs false
namespace Go.Proofs.Ytdpcmpfhjhbicaa
open Go.RowKit Go.Viv

theorem shares {P G : Prop} (h : P → G) (k : P) : G := h k
theorem edge_div {v H : Int} (h0 : 0 ≤ v) (h1 : v ≤ H) (hH : 0 < H) : v / H = if H ≤ v then 1 else 0 := by
  by_cases h : H ≤ v
  · obtain rfl : v = H := by omega
    rw [if_pos h, Int.ediv_self (by omega)]
  · rw [if_neg h, Int.ediv_eq_zero_of_lt h0 (by omega)]
/-- a place's number is that of its cell -/
theorem plc_in {k t s : Int} {Wn Hn : Nat} (g : GridOk k Wn Hn t s) (t0 : 0 ≤ t) {u v : Int} (hu : 0 ≤ u ∧ u ≤ Wn) (hv : 0 ≤ v ∧ v ≤ Hn) (hin : k = 2 ∨ (u < Wn ∧ v < Hn)) :
    plcE k Wn Hn t s u v = (((bpl k Wn Hn t s u v).2 * Wn + (bpl k Wn Hn t s u v).1 : Nat) : Int) := by
  have ok := topoOk_of t0 g.ok
  have kk := g.k1; have gw := g.w0; have gh := g.h0
  have hk : ¬ (k = 1 ∧ ((Wn : Int) ≤ u ∨ (Hn : Int) ≤ v)) := by omega
  have hx : plcX t s u v Hn % Wn = bpx k Wn Hn t s u v := by
    unfold plcX bpx
    by_cases ht : t = 1
    · have k2 : k = 2 := by rcases kk with e | e; exact absurd (ok.none (by omega) (by omega)) (by omega); exact e
      by_cases h : (Hn : Int) ≤ v
      · rw [if_pos ⟨h, ht⟩, if_pos ⟨k2, ht⟩, edge_div hv.1 hv.2 (by omega), if_pos h, Int.one_mul]
      · rw [if_neg (fun e => h e.1), if_pos ⟨k2, ht⟩, edge_div hv.1 hv.2 (by omega), if_neg h, Int.zero_mul, Int.sub_zero]
    · rw [if_neg (fun e => ht e.2), if_neg (fun e => ht e.2)]
  have hy : plcY t s u v Wn % Hn = bpy k Wn Hn t s u v := by
    unfold plcY bpy
    by_cases ht : t = 2
    · have k2 : k = 2 := by rcases kk with e | e; exact absurd (ok.none (by omega) (by omega)) (by omega); exact e
      by_cases h : (Wn : Int) ≤ u
      · rw [if_pos ⟨h, ht⟩, if_pos ⟨k2, ht⟩, edge_div hu.1 hu.2 (by omega), if_pos h, Int.one_mul]
      · rw [if_neg (fun e => h e.1), if_pos ⟨k2, ht⟩, edge_div hu.1 hu.2 (by omega), if_neg h, Int.zero_mul, Int.sub_zero]
    · rw [if_neg (fun e => ht e.2), if_neg (fun e => ht e.2)]
  have b1 := bpx_bd (k := k) (t := t) (s := s) (H := Hn) (show (0 : Int) < Wn by omega) u v
  have b2 := bpy_bd (k := k) (t := t) (s := s) (W := Wn) (show (0 : Int) < Hn by omega) u v
  unfold plcE
  rw [if_neg hk, hx, hy]
  simp only [bpl]
  rw [Int.natCast_add, Int.natCast_mul, Int.toNat_of_nonneg b1.1, Int.toNat_of_nonneg b2.1]
theorem plc_out {t s : Int} {Wn Hn : Nat} {u v : Int} (h : (Wn : Int) ≤ u ∨ (Hn : Int) ≤ v) : plcE 1 Wn Hn t s u v = -1 := by
  unfold plcE; rw [if_pos ⟨rfl, h⟩]
theorem idx_inj {W x x' y y' : Nat} (hx : x < W) (hx' : x' < W) (h : y * W + x = y' * W + x') : y = y' ∧ x = x' := by
  have h1 : (y * W + x) / W = y := by rw [Nat.mul_comm, Nat.mul_add_div (by omega), Nat.div_eq_of_lt hx]; omega
  have h2 : (y' * W + x') / W = y' := by rw [Nat.mul_comm, Nat.mul_add_div (by omega), Nat.div_eq_of_lt hx']; omega
  have e : y = y' := by rw [← h1, ← h2, h]
  subst e
  exact ⟨rfl, by omega⟩
theorem idx_lt {W H x y : Nat} (hx : x < W) (hy : y < H) : y * W + x < W * H := Nat.lt_of_lt_of_le (Nat.add_lt_add_left hx _) (by rw [← Nat.succ_mul, Nat.mul_comm W H]; exact Nat.mul_le_mul_right W hy)
theorem Flat.set {ob W H : Nat} {f : Nat → Nat → Int} {w : World} (h : Flat ob W H f w) {p : Cl} (h1 : p.1 < W) (h2 : p.2 < H) (s : Int) : Flat ob W H (putC f p s) (w.setCell ⟨ob, p.2 * W + p.1, none⟩ (.int .u8 s)) := by
  obtain ⟨cs, a, b, c⟩ := h.ex
  refine ⟨_, bk_set a _ _, by simpa using b, fun y x hy hx => ?_⟩
  unfold putC
  by_cases e : y = p.2 ∧ x = p.1
  · rw [if_pos e, e.1, e.2]
    exact aset_same (Nat.lt_of_lt_of_le (idx_lt h1 h2) b) _
  · rw [if_neg e, Array.getElem?_setIfInBounds_ne (fun h => e (by have := idx_inj h1 hx h; exact ⟨this.1.symm, this.2.symm⟩))]
    exact c y x hy hx
theorem Flat.cell {ob W H : Nat} {f : Nat → Nat → Int} {w : World} (h : Flat ob W H f w) {p : Cl} (h1 : p.1 < W) (h2 : p.2 < H) : w.cell? ⟨ob, p.2 * W + p.1, none⟩ = some (.int .u8 (at_ f p)) := by
  obtain ⟨cs, a, b, c⟩ := h.ex
  rw [bk_cell a, c p.2 p.1 h2 h1]; rfl
theorem Flat.free {ob W H : Nat} {f : Nat → Nat → Int} {w : World} (h : Flat ob W H f w) (i : Nat) : w.frozen? ⟨ob, i, none⟩ = false := let ⟨_, a, _⟩ := h.ex; bk_free a i
theorem Flat.far {ob g i W H : Nat} {f : Nat → Nat → Int} {w : World} (h : Flat ob W H f w) (hne : ob ≠ g) (v : Value) : Flat ob W H f (w.setCell ⟨g, i, none⟩ v) := h.keep (Below.heap_setCell _ _ _ ob hne)
/-- what comes of append(nil, cells...) -/
theorem flat_own {w : World} {base : Nat} {v : Value} {W H N : Nat} (hN : N = W * H) {f : Nat → Nat → Int} {xs : List Value} (h : w.ownsRow base 5 1 v N xs) (hp : 0 < N) (hx : ∀ y x, y < H → x < W → xs[y * W + x]? = some (.int .u8 (f y x))) :
    ∃ ob c, v = .slice (some ⟨ob, 0, none⟩) N c ∧ Flat ob W H f w ∧ base ≤ ob ∧ N ≤ c ∧ c ≤ 9223372036854775807 := by
  subst hN
  rcases h.2 with ⟨hv, hx'⟩ | ⟨gl, cap, cur, hv, hb, hg, hn, hc, hs, ht⟩
  · have := h.1; simp_all
  · refine ⟨gl, cap, hv, ⟨cur, hg, by omega, fun y x hy hx' => ?_⟩, hb, hn, by unfold maxLen at hc; exact hc⟩
    have h1 := hx y x hy hx'
    have h2 := idx_lt hx' hy
    rw [← ht, List.getElem?_take_of_lt (by omega)] at h1
    simpa using h1

/-- cells as a list -/
def flatL (W H : Nat) (f : Nat → Nat → Int) : List Int := (List.range (W * H)).map fun i => f (i / W) (i % W)
theorem flatL_at {W H y x : Nat} {f : Nat → Nat → Int} (hy : y < H) (hx : x < W) : ((flatL W H f).map (Value.int .u8))[y * W + x]? = some (.int .u8 (f y x)) := by
  have h := idx_lt hx hy
  have h1 : (y * W + x) / W = y := by rw [Nat.mul_comm, Nat.mul_add_div (by omega), Nat.div_eq_of_lt hx]; omega
  have h2 : (y * W + x) % W = x := by rw [Nat.mul_comm, Nat.mul_add_mod, Nat.mod_eq_of_lt hx]
  simp [flatL, h, h1, h2]
theorem Flat.rd {ob W H : Nat} {f : Nat → Nat → Int} {w : World} (h : Flat ob W H f w) (hW : 0 < W) : Rd w (some ⟨ob, 0, none⟩) ((flatL W H f).map (.int .u8)) := by
  obtain ⟨cs, a, b, c⟩ := h.ex
  refine Rd.of_block a fun j u hu => ?_
  have hj : j < W * H := by have := (List.getElem?_eq_some_iff.1 hu).1; simpa [flatL] using this
  have hy : j / W < H := Nat.div_lt_of_lt_mul hj
  have hx : j % W < W := Nat.mod_lt _ hW
  have e : j / W * W + j % W = j := by rw [Nat.mul_comm]; exact Nat.div_add_mod j W
  have h1 := flatL_at (f := f) hy hx
  have h2 := c _ _ hy hx
  rw [e] at h1 h2
  rw [h2, ← h1]; exact hu
/-- what is known while a generation goes by -/
structure OcSt (cb ob Wn Hn : Nat) (r : List Int) (k t s : Int) (f o : Nat → Nat → Int) (w wr : World) : Prop where
  r : wr.heap[w.heap.size]? = some (.cells (arr r) 23 (0, 0))
  t : wr.heap[w.heap.size + 1]? = some (.cells #[.int .u8 k, .int .i64 Wn, .int .i64 Hn, .int .u8 t, .int .i64 s] 29 (0, 0))
  c : Flat cb Wn Hn f wr
  o : Flat ob Wn Hn o wr
  l : Below w.heap.size w wr
theorem OcSt.below {cb ob Wn Hn : Nat} {r : List Int} {k t s : Int} {f o : Nat → Nat → Int} {w wr wr' : World} (h : OcSt cb ob Wn Hn r k t s f o w wr) (hb : Below wr.heap.size wr wr') : OcSt cb ob Wn Hn r k t s f o w wr' :=
  ⟨bk_below h.r hb, bk_below h.t hb, h.c.below hb, h.o.below hb, next' h.l hb⟩
theorem OcSt.held {cb ob Wn Hn : Nat} {r : List Int} {k t s : Int} {f o : Nat → Nat → Int} {w wr : World} (h : OcSt cb ob Wn Hn r k t s f o w wr) : wr.cell? ⟨w.heap.size + 1, 0, none⟩ = some (.int .u8 k) ∧ wr.cell? ⟨w.heap.size + 1, 1, none⟩ = some (.int .i64 Wn) ∧ wr.cell? ⟨w.heap.size + 1, 2, none⟩ = some (.int .i64 Hn) ∧ wr.cell? ⟨w.heap.size + 1, 3, none⟩ = some (.int .u8 t) ∧ wr.cell? ⟨w.heap.size + 1, 4, none⟩ = some (.int .i64 s) ∧ OcSt cb ob Wn Hn r k t s f o w wr :=
  ⟨bk_cell h.t 0, bk_cell h.t 1, bk_cell h.t 2, bk_cell h.t 3, bk_cell h.t 4, h⟩
theorem OcSt.four {cb ob Wn Hn : Nat} {r : List Int} {k t s : Int} {f o : Nat → Nat → Int} {w wr : World} {pb : Nat} {v0 v1 v2 v3 : Value} (h : OcSt cb ob Wn Hn r k t s f o w wr) (h1 : w.heap.size + 1 < pb) (h2 : cb < pb) (h3 : ob < pb) (h4 : w.heap.size < pb) : OcSt cb ob Wn Hn r k t s f o w ((((wr.setCell ⟨pb, 0, none⟩ v0).setCell ⟨pb, 1, none⟩ v1).setCell ⟨pb, 2, none⟩ v2).setCell ⟨pb, 3, none⟩ v3) := by
  have e : ∀ b, b ≠ pb → ((((wr.setCell ⟨pb, 0, none⟩ v0).setCell ⟨pb, 1, none⟩ v1).setCell ⟨pb, 2, none⟩ v2).setCell ⟨pb, 3, none⟩ v3).heap[b]? = wr.heap[b]? := fun b hb =>
    (((Below.heap_setCell _ _ _ b hb).trans (Below.heap_setCell _ _ _ b hb)).trans (Below.heap_setCell _ _ _ b hb)).trans (Below.heap_setCell _ _ _ b hb)
  exact ⟨(e _ (by omega)).trans h.r, (e _ (by omega)).trans h.t, h.c.keep (e _ (by omega)), h.o.keep (e _ (by omega)), (((h.l.setCell (p := ⟨pb, 0, none⟩) (by show w.heap.size ≤ pb; omega) v0).setCell (p := ⟨pb, 1, none⟩) (by show w.heap.size ≤ pb; omega) v1).setCell (p := ⟨pb, 2, none⟩) (by show w.heap.size ≤ pb; omega) v2).setCell (p := ⟨pb, 3, none⟩) (by show w.heap.size ≤ pb; omega) v3⟩
theorem OcSt.four' {cb ob Wn Hn : Nat} {r : List Int} {k t s : Int} {f o : Nat → Nat → Int} {w wr wa : World} {v0 v1 v2 v3 : Value} (h : OcSt cb ob Wn Hn r k t s f o w wr) (ha : OcSt cb ob Wn Hn r k t s f o w wa) : OcSt cb ob Wn Hn r k t s f o w ((((wr.setCell ⟨wa.heap.size, 0, none⟩ v0).setCell ⟨wa.heap.size, 1, none⟩ v1).setCell ⟨wa.heap.size, 2, none⟩ v2).setCell ⟨wa.heap.size, 3, none⟩ v3) :=
  h.four (bk_lt ha.t) ha.c.lt ha.o.lt (bk_lt ha.r)
theorem OcSt.lts {cb ob Wn Hn : Nat} {r : List Int} {k t s : Int} {f o : Nat → Nat → Int} {w wa : World} (ha : OcSt cb ob Wn Hn r k t s f o w wa) : w.heap.size + 1 < wa.heap.size ∧ cb < wa.heap.size ∧ ob < wa.heap.size := ⟨bk_lt ha.t, ha.c.lt, ha.o.lt⟩
theorem heldO {cb ob Wn Hn : Nat} {r : List Int} {k t s : Int} {f o : Nat → Nat → Int} {w wr : World} {p0 p1 p2 p3 p4 : Prop} (h : p0 ∧ p1 ∧ p2 ∧ p3 ∧ p4 ∧ OcSt cb ob Wn Hn r k t s f o w wr) : OcSt cb ob Wn Hn r k t s f o w wr := h.2.2.2.2.2
/-- what a generation comes to -/
def OnceP (Wn Hn N : Nat) (F : Nat → Nat → Int) (w : World) (e : Ending) (w' : World) : Prop := ∃ ob c, e = .returned (.slice (some ⟨ob, 0, none⟩) N c) ∧ Flat ob Wn Hn F w' ∧ w.heap.size ≤ ob ∧ N ≤ c ∧ c ≤ 9223372036854775807 ∧ Below w.heap.size w w'
/-- the blocks written so far: i rows, and j of the next -/
def ocL (k W H t s odd : Int) (i j : Nat) : List Blk := blkTo k W H t s odd i ++ blkRow k W H t s odd (odd + 2 * i) j

theorem wrTo_succ {G : Nat → Nat → Int} {B : Blk} {n m : Nat} (hm : m < 4) : wrTo G B n (m + 1) = putC (wrTo G B n m) (blkNth B m) (((n / 2 ^ m % 2 : Nat)) : Int) := by
  have : m = 0 ∨ m = 1 ∨ m = 2 ∨ m = 3 := by omega
  rcases this with rfl | rfl | rfl | rfl <;> simp [wrTo, wrB, blkNth]
theorem OcSt.setO {cb ob Wn Hn : Nat} {r : List Int} {k t s : Int} {f o : Nat → Nat → Int} {w wr : World} (h : OcSt cb ob Wn Hn r k t s f o w wr) (h1 : cb < ob) (h2 : w.heap.size + 1 < ob) {p : Cl} (p1 : p.1 < Wn) (p2 : p.2 < Hn) (v : Int) : OcSt cb ob Wn Hn r k t s f (putC o p v) w (wr.setCell ⟨ob, p.2 * Wn + p.1, none⟩ (.int .u8 v)) :=
  ⟨bk_far h.r (by show w.heap.size ≠ ob; omega) _, bk_far h.t (by show w.heap.size + 1 ≠ ob; omega) _, h.c.far (by omega) _, h.o.set p1 p2 v, h.l.setCell (p := ⟨ob, p.2 * Wn + p.1, none⟩) (by show w.heap.size ≤ ob; omega) _⟩
theorem par_snoc (r : List Int) (L : List Blk) (B : Blk) (f o : Nat → Nat → Int) : parM r (L ++ [B]) f o = wrB (parM r L f o) B (nth r (frm f B).toNat) := by
  unfold parM; rw [List.foldl_append]; rfl
theorem ocL_in {k W H t s odd : Int} {i j : Nat} (h : blkIn k W H (odd + 2 * j) (odd + 2 * i) = true) : ocL k W H t s odd i (j + 1) = ocL k W H t s odd i j ++ [blkOf k W H t s (odd + 2 * j) (odd + 2 * i)] := by
  unfold ocL; rw [blkRow_succ, h, if_pos rfl, List.append_assoc]
theorem ocL_out {k W H t s odd : Int} {i j : Nat} (h : blkIn k W H (odd + 2 * j) (odd + 2 * i) = false) : ocL k W H t s odd i (j + 1) = ocL k W H t s odd i j := by
  unfold ocL; rw [blkRow_succ, h]; simp
theorem ocL_row {k W H t s odd : Int} {wn : Nat} (hw : W = 2 * (wn : Int)) (i : Nat) : ocL k W H t s odd (i + 1) 0 = ocL k W H t s odd i wn := by
  unfold ocL; rw [blkTo_succ, show W.toNat / 2 = wn by omega]; simp [blkRow]
theorem ocL_all {k W H t s odd : Int} {hn : Nat} (hh : H = 2 * (hn : Int)) : ocL k W H t s odd hn 0 = blkL k W H t s odd := by
  unfold ocL blkL; rw [show H.toNat / 2 = hn by omega]; simp [blkRow]
theorem ocL_nil {k W H t s odd : Int} : ocL k W H t s odd 0 0 = [] := by simp [ocL, blkTo, blkRow]
/-- four places: a block, or one is missing -/
theorem plc_four {k t s : Int} {Wn Hn wn hn : Nat} (ev : EvenOk k Wn Hn t s wn hn) {U V : Int} (u0 : 0 ≤ U) (u1 : U < Wn) (v0 : 0 ≤ V) (v1 : V < Hn) :
    (blkIn k Wn Hn U V = true ∧ ∃ B : Blk, B = blkOf k Wn Hn t s U V ∧ plcE k Wn Hn t s U V = ((B.a.2 * Wn + B.a.1 : Nat) : Int) ∧ plcE k Wn Hn t s (U + 1) V = ((B.b.2 * Wn + B.b.1 : Nat) : Int) ∧ plcE k Wn Hn t s U (V + 1) = ((B.c.2 * Wn + B.c.1 : Nat) : Int) ∧ plcE k Wn Hn t s (U + 1) (V + 1) = ((B.d.2 * Wn + B.d.1 : Nat) : Int) ∧ ∀ p ∈ B.cells, p.1 < Wn ∧ p.2 < Hn) ∨
    (blkIn k Wn Hn U V = false ∧ (plcE k Wn Hn t s (U + 1) V = -1 ∨ plcE k Wn Hn t s U (V + 1) = -1)) := by
  have g := ev.g; have t0 := ev.t0; have ps := ev.pos
  cases hb : blkIn k Wn Hn U V
  · right
    refine ⟨rfl, ?_⟩
    unfold blkIn at hb
    rw [decide_eq_false_iff_not] at hb
    have k1 : k = 1 := by rcases g.k1 with e | e; exact e; exact absurd (.inl e) hb
    subst k1
    by_cases h : (Wn : Int) ≤ U + 1
    · exact .inl (plc_out (.inl h))
    · exact .inr (plc_out (.inr (by omega)))
  · left
    refine ⟨rfl, _, rfl, ?_, ?_, ?_, ?_, ?_⟩
    all_goals unfold blkIn at hb
    all_goals rw [decide_eq_true_eq] at hb
    · exact plc_in g t0 ⟨by omega, by omega⟩ ⟨by omega, by omega⟩ (by omega)
    · exact plc_in g t0 ⟨by omega, by omega⟩ ⟨by omega, by omega⟩ (by omega)
    · exact plc_in g t0 ⟨by omega, by omega⟩ ⟨by omega, by omega⟩ (by omega)
    · exact plc_in g t0 ⟨by omega, by omega⟩ ⟨by omega, by omega⟩ (by omega)
    · intro p hp
      obtain ⟨x, y, _, _, rfl⟩ := blk_mem.1 hp
      have h1 := bpx_bd (k := k) (t := t) (s := s) (H := Hn) (show (0 : Int) < Wn by omega) (U + x) (V + y)
      have h2 := bpy_bd (k := k) (t := t) (s := s) (W := Wn) (show (0 : Int) < Hn by omega) (U + x) (V + y)
      simp only [bpl]
      omega

/-- what once does, as a hypothesis of those who call it -/
def OnceC (k t s : Int) (Wn Hn N : Nat) : Prop := ∀ (r : List Int) (g : Int) (cb c : Nat) (f : Nat → Nat → Int) (w : World), Arr16 r → checkB r = 0 → 0 ≤ g → g ≤ 9223372036854775807 → Flat cb Wn Hn f w → (∀ p : Cl, p.1 < Wn → p.2 < Hn → at_ f p = 0 ∨ at_ f p = 1) → N ≤ c → c ≤ 9223372036854775807 →
    Calls Try.prog 52 #[.agg (arr r), topoV k Wn Hn t s, .slice (some ⟨cb, 0, none⟩) N c, .int .i64 g] w (OnceP Wn Hn N (genM r (blkL k Wn Hn t s (g % 2)) f) w)
end Go.Proofs.Ytdpcmpfhjhbicaa
