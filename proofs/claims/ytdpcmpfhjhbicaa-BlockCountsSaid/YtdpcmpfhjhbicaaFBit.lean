/- Rows of bits: blank rows. -/
import Derived.Test.YtdpcmpfhjhbicaaFCopy
import Derived.Laws.Bits64
import Derived.Laws.BitsAllLaws
set_option linter.unusedVariables false
set_option linter.unusedSimpArgs false
namespace Go.Proofs.Ytdpcmpfhjhbicaa
open Go.RowKit

theorem u64info : (Try.prog.info? 128).map (fun i => (i.zero, i.size, i.bytes)) = some (some (.int .u64 0), 1, 8) := by kernel_rfl
/-- so many words -/
def nw (n : Nat) : Nat := (n + 63) / 64
theorem nw_le {n : Nat} (h : n ≤ 65538) : nw n ≤ 1025 := by unfold nw; omega
theorem nw_pos {n : Nat} (h : 0 < n) : 0 < nw n := by unfold nw; omega
def zwords (n : Nat) : Array Value := madeCells #[.int .u64 0] n

theorem make_words (n : Nat) (h : n ≤ 65538) (w : World) :
    (Instr.makeSlice 118 (.int .i64 (((n : Int) + 63) / 64)) (.int .i64 (((n : Int) + 63) / 64))).run Try.prog w = .ok (.slice (some ⟨w.heap.size, 0, none⟩) (nw n) (nw n)) (w.alloc (.cells (zwords (nw n)) 128)) := by
  have := run_makeN (P := Try.prog) Try.underlying118 u64info (nw n) (by have := nw_le h; omega) (by have := nw_le h; omega) w
  have e : (((n : Int) + 63) / 64) = ((nw n : Nat) : Int) := by unfold nw; omega
  rw [e]
  simp only [Nat.mul_one] at this
  exact this

theorem blank_calls (n : Nat) (h : n ≤ 65538) (w : World) :
    Calls Try.prog 78 #[.int .i64 n] w fun e w' => e = .returned (.agg #[.int .i64 n, .slice (some ⟨w.heap.size + 1, 0, none⟩) (nw n) (nw n)]) ∧ w'.heap[w.heap.size + 1]? = some (.cells (zwords (nw n)) 128 (0, 0)) ∧ Below w.heap.size w w' := by
  have hmk := make_words n h
  go_enter Try.func78, Try.ntmps78
  go_wp2
  refine end_c w.heap.size 120 rfl rfl rfl Try.underlying120 rfl ?_
  exact ⟨_, bk_alloc (bk_new _ _) _, by kernel_rfl, rfl, bk_newn _ _ _ (by simp), (boxed _ _).alloc (by simp) _⟩

set_option maxHeartbeats 400000 in
theorem New_row (n : Nat) (h : n ≤ 65538) (w : World) :
    Calls Try.prog 71 #[.int .i64 n] w fun e w' => ∃ g, e = .returned (.tuple #[.agg #[.int .i64 n, .slice (some ⟨g, 0, none⟩) (nw n) (nw n)], .int .i64 0]) ∧ w.heap.size ≤ g ∧ w'.heap[g]? = some (.cells (zwords (nw n)) 128 (0, 0)) ∧ Below w.heap.size w w' := by
  have K0 := bk_new w (.cells #[.int .i64 0, .slice none 0 0] 120)
  have hBw := boxed w (.cells #[.int .i64 0, .slice none 0 0] 120)
  go_enter Try.func71, Try.ntmps71
  go_wp2_with (first | fail)
  refine (blank_calls n h _).mono ?_
  rintro e w1 ⟨rfl, hg, hb⟩
  rw [World.size_alloc] at hg
  have K1 := bk_below K0 hb
  have hc1 := bk_cell K1; have hf1 := bk_free K1
  have HG := Lib.hid hg; clear hg
  go_wp2
  refine end_ct w.heap.size 120 rfl rfl rfl Try.underlying120 rfl ?_
  refine ⟨_, bk_set (bk_set K1 0 _) 1 _, by kernel_rfl, _, rfl, ?_, ?_, ?_⟩
  · omega
  · exact bk_far (bk_far HG.out (by simp; omega) _) (by simp; omega) _
  · exact ((hBw.trans (hb.mono (by simp))).setCell (p := ⟨w.heap.size, 0, none⟩) (Nat.le_refl _) _).setCell (p := ⟨w.heap.size, 1, none⟩) (Nat.le_refl _) _

/-- cells kept as bits: the list of rows lies at block gr, two cells a row; the words of the row y at block G y -/
structure BitsAt (gr : Nat) (W H : Nat) (f : Nat → Nat → Int) (G : Nat → Nat) (w : World) : Prop where
  rows : ∃ cur, w.heap[gr]? = some (.cells cur 120 (0, 0)) ∧ ∀ y, y < H → cur[y * 2]? = some (.int .i64 W) ∧ ∃ c, cur[y * 2 + 1]? = some (.slice (some ⟨G y, 0, none⟩) (nw W) c)
  row : ∀ y, y < H → ∃ cur, w.heap[G y]? = some (.cells cur 128 (0, 0)) ∧ ∀ k, k < nw W → ∃ v : Nat, v < 18446744073709551616 ∧ cur[k]? = some (.int .u64 v) ∧ ∀ j, j < 64 → 64 * k + j < W → f y (64 * k + j) = if v.testBit j then 1 else 0
  inj : ∀ y y', y < H → y' < H → G y = G y' → y = y'

section
variable {gr W H : Nat} {f f' : Nat → Nat → Int} {G : Nat → Nat} {w w' : World}
theorem BitsAt.lt (h : BitsAt gr W H f G w) : ∀ b, bytesS gr H G b → b < w.heap.size := by
  rintro b (rfl | ⟨y, hy, rfl⟩)
  · obtain ⟨cur, hc, _⟩ := h.rows; exact bk_lt hc
  · obtain ⟨cur, hc, _⟩ := h.row y hy; exact bk_lt hc
theorem BitsAt.keep (h : BitsAt gr W H f G w) (hk : ∀ b, bytesS gr H G b → w'.heap[b]? = w.heap[b]?) : BitsAt gr W H f G w' :=
  ⟨let ⟨cur, hc, r⟩ := h.rows; ⟨cur, (hk gr (.inl rfl)).trans hc, r⟩, fun y hy => let ⟨cur, hc, r⟩ := h.row y hy; ⟨cur, (hk _ (.inr ⟨y, hy, rfl⟩)).trans hc, r⟩, h.inj⟩
theorem BitsAt.below (h : BitsAt gr W H f G w) (hb : Below w.heap.size w w') : BitsAt gr W H f G w' := h.keep fun b hS => hb.block b (h.lt b hS)
theorem BitsAt.cong (h : BitsAt gr W H f G w) (hf : ∀ y x, y < H → x < W → f y x = f' y x) : BitsAt gr W H f' G w :=
  ⟨h.rows, fun y hy => let ⟨cur, hc, r⟩ := h.row y hy; ⟨cur, hc, fun k hk => let ⟨v, hv, h1, h2⟩ := r k hk; ⟨v, hv, h1, fun j hj hl => by rw [← hf y _ hy hl]; exact h2 j hj hl⟩⟩, h.inj⟩
theorem BitsAt.rowcell (h : BitsAt gr W H f G w) (y : Nat) (hy : y < H) : ∃ c, w.cell? ⟨gr, y * 2 + 1, none⟩ = some (.slice (some ⟨G y, 0, none⟩) (nw W) c) := by
  obtain ⟨cur, hc, r⟩ := h.rows
  obtain ⟨_, c, hr⟩ := r y hy
  exact ⟨c, by rw [bk_cell hc, hr]⟩
theorem BitsAt.ncell (h : BitsAt gr W H f G w) (y : Nat) (hy : y < H) : w.cell? ⟨gr, y * 2, none⟩ = some (.int .i64 W) := by
  obtain ⟨cur, hc, r⟩ := h.rows
  rw [bk_cell hc, (r y hy).1]
theorem BitsAt.word (h : BitsAt gr W H f G w) (y k : Nat) (hy : y < H) (hk : k < nw W) : ∃ v : Nat, v < 18446744073709551616 ∧ w.cell? ⟨G y, k, none⟩ = some (.int .u64 v) ∧ ∀ j, j < 64 → 64 * k + j < W → f y (64 * k + j) = if v.testBit j then 1 else 0 := by
  obtain ⟨cur, hc, r⟩ := h.row y hy
  obtain ⟨v, h1, h2, h3⟩ := r k hk
  exact ⟨v, h1, by rw [bk_cell hc, h2], h3⟩
theorem BitsAt.free (h : BitsAt gr W H f G w) (y : Nat) (hy : y < H) (x : Nat) : w.frozen? ⟨G y, x, none⟩ = false := by
  obtain ⟨cur, hc, r⟩ := h.row y hy
  exact bk_free hc x
end
theorem lt_nw {x W : Nat} (h : x < W) : x / 64 < nw W := by unfold nw; omega

/-- a bit, as the code reads it -/
theorem bit_get (v j : Nat) (hv : v < 18446744073709551616) : bits BinOp.and IntKind.u64 ((v : Int) / 2 ^ j) 1 % 256 = if v.testBit j then 1 else 0 := by
  have e : ((v : Int) / 2 ^ j) = ((v / 2 ^ j : Nat) : Int) := by simp
  have h2 : v / 2 ^ j < 18446744073709551616 := Nat.lt_of_le_of_lt (Nat.div_le_self _ _) hv
  rw [e, show (1 : Int) = ((1 : Nat) : Int) from rfl, u64_and_nat _ _ h2 (by omega), Nat.and_one_is_mod, Nat.testBit_eq_decide_div_mod_eq]
  by_cases h : v / 2 ^ j % 2 = 1
  · simp [h]
  · have : v / 2 ^ j % 2 = 0 := by omega
    simp [this]
/-- a word in which a bit is made another one -/
def setW (v j s : Nat) : Nat := (v &&& (18446744073709551615 - 2 ^ j)) ||| (s * 2 ^ j)
theorem setW_lt (v j s : Nat) (hv : v < 18446744073709551616) (hj : j < 64) (hs : s ≤ 1) : setW v j s < 18446744073709551616 := by
  have h1 : v &&& (18446744073709551615 - 2 ^ j) < 2 ^ 64 := Nat.lt_of_le_of_lt Nat.and_le_left hv
  have h2 : s * 2 ^ j < 2 ^ 64 := by
    have : 2 ^ j < 2 ^ 64 := Nat.pow_lt_pow_right (by omega) hj
    rcases (by omega : s = 0 ∨ s = 1) with rfl | rfl <;> omega
  exact Nat.or_lt_two_pow h1 h2
theorem testBit_mask (j i : Nat) (hi : i < 64) (hj : j < 64) : (18446744073709551615 - 2 ^ j).testBit i = decide (i ≠ j) := by
  have : (18446744073709551615 - 2 ^ j) = 2 ^ 64 - (2 ^ j + 1) := by have : 2 ^ j < 2 ^ 64 := Nat.pow_lt_pow_right (by omega) hj; omega
  rw [this, Nat.testBit_two_pow_sub_succ (Nat.pow_lt_pow_right (by omega) hj), Nat.testBit_two_pow]
  simp [hi, eq_comm]
theorem wrap_bit (j s : Nat) (hj : j < 64) (hs : s ≤ 1) : IntKind.u64.wrap ((s : Int) * 2 ^ j) = ((s * 2 ^ j : Nat) : Int) := by
  have h1 : 2 ^ j < 2 ^ 64 := Nat.pow_lt_pow_right (by omega) hj
  have h2 : s * 2 ^ j < 18446744073709551616 := by
    rcases (by omega : s = 0 ∨ s = 1) with rfl | rfl <;> omega
  rw [IntKind.wrap_u64]
  have e : ((s : Int) * 2 ^ j) = ((s * 2 ^ j : Nat) : Int) := by simp
  rw [e]
  omega
theorem wrap_bit1 (j : Nat) (hj : j < 64) : IntKind.u64.wrap (2 ^ j) = ((2 ^ j : Nat) : Int) := by
  have := wrap_bit j 1 hj (by omega)
  simpa using this
theorem bit_clear (v j : Nat) (hv : v < 18446744073709551616) (hj : j < 64) : bits BinOp.andNot IntKind.u64 (v : Int) (IntKind.u64.wrap (2 ^ j)) = ((v &&& (18446744073709551615 - 2 ^ j) : Nat) : Int) := by
  have h1 : 2 ^ j < 2 ^ 64 := Nat.pow_lt_pow_right (by omega) hj
  rw [wrap_bit1 j hj, u64_andNot_nat _ _ hv (by omega)]
theorem bit_set (v j s : Nat) (hv : v < 18446744073709551616) (hj : j < 64) (hs : s ≤ 1) : bits BinOp.or IntKind.u64 ((v &&& (18446744073709551615 - 2 ^ j) : Nat) : Int) (IntKind.u64.wrap ((s : Int) * 2 ^ j)) = (setW v j s : Int) := by
  have h1 : 2 ^ j < 2 ^ 64 := Nat.pow_lt_pow_right (by omega) hj
  have h2 : s * 2 ^ j < 18446744073709551616 := by
    rcases (by omega : s = 0 ∨ s = 1) with rfl | rfl <;> omega
  rw [wrap_bit j s hj hs, u64_or_nat _ _ (Nat.lt_of_le_of_lt Nat.and_le_left hv) h2]
  rfl
theorem setW_bit (v j s i : Nat) (hi : i < 64) (hj : j < 64) (hs : s ≤ 1) : (setW v j s).testBit i = if i = j then decide (s = 1) else v.testBit i := by
  unfold setW
  rw [Nat.testBit_or, Nat.testBit_and, testBit_mask j i hi hj]
  have : (s * 2 ^ j).testBit i = decide (s = 1 ∧ i = j) := by
    rcases (by omega : s = 0 ∨ s = 1) with rfl | rfl
    · simp
    · simp [Nat.testBit_two_pow, eq_comm]
  rw [this]
  by_cases e : i = j <;> simp [e]

theorem tget {gr W H c : Nat} {f : Nat → Nat → Int} {G : Nat → Nat} {w : World} (h : BitsAt gr W H f G w) (x y : Nat) (hx : x < W) (hy : y < H) (hH : H ≤ 65536) (hW : W ≤ 65536) :
    Calls Try.prog 117 #[.agg #[.slice (some ⟨gr, 0, none⟩) H c], .int .i64 x, .int .i64 y] w fun e w' => e = .returned (.int .u8 (f y x)) ∧ w' = w.alloc (.cells #[.slice (some ⟨gr, 0, none⟩) H c] 117) := by
  have h1 := h.below (boxed w (.cells #[.slice (some ⟨gr, 0, none⟩) H c] 117))
  obtain ⟨c1, hc1⟩ := h1.rowcell y hy
  obtain ⟨v, hv, hc2, hbit⟩ := h1.word y (x / 64) hy (lt_nw hx)
  have hnw := lt_nw hx
  have H1 := Lib.hid h1; have H0 := Lib.hid h; have HB := Lib.hid hbit; clear h h1 hbit
  go_enter Try.func117, Try.ntmps117
  go_wp2
  go_ret
  have e := HB.out (x % 64) (by omega) (by omega)
  rw [show 64 * (x / 64) + x % 64 = x from by omega] at e
  refine ⟨?_, rfl⟩
  rw [e, ← bit_get v _ hv]
  rfl

theorem BitsAt.setw {gr W H : Nat} {f f' : Nat → Nat → Int} {G : Nat → Nat} {w : World} (h : BitsAt gr W H f G w) (y k : Nat) (hy : y < H) (hk : k < nw W) (v' : Nat) (hv' : v' < 18446744073709551616)
    (h1 : ∀ j, j < 64 → 64 * k + j < W → f' y (64 * k + j) = if v'.testBit j then 1 else 0) (h2 : ∀ y' x', y' < H → x' < W → (y' ≠ y ∨ x' / 64 ≠ k) → f' y' x' = f y' x') : BitsAt gr W H f' G (w.setCell ⟨G y, k, none⟩ (.int .u64 v')) := by
  refine ⟨?_, fun y' hy' => ?_, h.inj⟩
  · obtain ⟨cur, hc, r⟩ := h.rows
    refine ⟨cur, bk_far hc ?_ _, r⟩
    obtain ⟨cur', hc', _⟩ := h.row y hy
    rintro rfl
    rw [hc] at hc'
    simp at hc'
  · obtain ⟨cur, hc, r⟩ := h.row y' hy'
    by_cases e : y' = y
    · subst e
      refine ⟨_, bk_set hc k _, fun k' hk' => ?_⟩
      obtain ⟨v, hv, hcv, hb⟩ := r k' hk'
      have hlt : k' < cur.size := (Array.getElem?_eq_some_iff.1 hcv).1
      by_cases e' : k' = k
      · subst e'
        exact ⟨v', hv', by simp [hlt], h1⟩
      · refine ⟨v, hv, by simp [Array.getElem?_setIfInBounds, Ne.symm e', hcv], fun j hj hl => ?_⟩
        rw [h2 y' _ hy hl (.inr (by omega))]
        exact hb j hj hl
    · refine ⟨cur, bk_far hc (fun e2 => e (h.inj _ _ hy' hy e2)) _, fun k' hk' => ?_⟩
      obtain ⟨v, hv, hcv, hb⟩ := r k' hk'
      refine ⟨v, hv, hcv, fun j hj hl => ?_⟩
      rw [h2 y' _ hy' hl (.inl e)]
      exact hb j hj hl

set_option maxHeartbeats 1000000 in
theorem tset {gr W H c : Nat} {f : Nat → Nat → Int} {G : Nat → Nat} {w : World} (h : BitsAt gr W H f G w) (x y : Nat) (s : Nat) (hx : x < W) (hy : y < H) (hs : s ≤ 1) (hH : H ≤ 65536) (hW : W ≤ 65536) :
    Calls Try.prog 118 #[.agg #[.slice (some ⟨gr, 0, none⟩) H c], .int .i64 x, .int .i64 y, .int .u8 s] w fun e w' => e = .returned (.tuple #[]) ∧ BitsAt gr W H (setF f y x s) G w' ∧ Wrote (bytesS gr H G) w w' := by
  have h1 := h.below (boxed w (.cells #[.slice (some ⟨gr, 0, none⟩) H c] 117))
  obtain ⟨c1, hc1⟩ := h1.rowcell y hy
  obtain ⟨v, hv, hc2, hbit⟩ := h1.word y (x / 64) hy (lt_nw hx)
  have hf2 := h1.free y hy (x / 64)
  have hnw := lt_nw hx
  have hj : x % 64 < 64 := by omega
  have e1 := bit_clear v (x % 64) hv hj
  have e2 := bit_set v (x % 64) s hv hj hs
  have hc3 : (((w.alloc (.cells #[.slice (some ⟨gr, 0, none⟩) H c] 117)).setCell ⟨G y, x / 64, none⟩ (.int .u64 ((v &&& (18446744073709551615 - 2 ^ (x % 64)) : Nat) : Int))).drew).cell? ⟨G y, x / 64, none⟩ = some (.int .u64 ((v &&& (18446744073709551615 - 2 ^ (x % 64)) : Nat) : Int)) :=
    World.cell?_setCell_same' _ _ _ (by rw [hc2]; rfl)
  have hf3 : (((w.alloc (.cells #[.slice (some ⟨gr, 0, none⟩) H c] 117)).setCell ⟨G y, x / 64, none⟩ (.int .u64 ((v &&& (18446744073709551615 - 2 ^ (x % 64)) : Nat) : Int))).drew).frozen? ⟨G y, x / 64, none⟩ = false := by
    show World.frozen? (World.setCell _ _ _) _ = false
    rw [World.frozen?_setCell]; exact hf2
  have hfin : BitsAt gr W H (setF f y x s) G ((((w.alloc (.cells #[.slice (some ⟨gr, 0, none⟩) H c] 117)).setCell ⟨G y, x / 64, none⟩ (.int .u64 ((v &&& (18446744073709551615 - 2 ^ (x % 64)) : Nat) : Int))).drew).setCell ⟨G y, x / 64, none⟩ (.int .u64 (setW v (x % 64) s))) := by
    have hA : BitsAt gr W H (fun y' x' => if y' = y ∧ x' / 64 = x / 64 then (if (v &&& (18446744073709551615 - 2 ^ (x % 64))).testBit (x' % 64) then 1 else 0) else f y' x') G (((w.alloc (.cells #[.slice (some ⟨gr, 0, none⟩) H c] 117)).setCell ⟨G y, x / 64, none⟩ (.int .u64 ((v &&& (18446744073709551615 - 2 ^ (x % 64)) : Nat) : Int))).drew) := by
      have hA0 := h1.setw (f' := fun y' x' => if y' = y ∧ x' / 64 = x / 64 then (if (v &&& (18446744073709551615 - 2 ^ (x % 64))).testBit (x' % 64) then 1 else 0) else f y' x') y (x / 64) hy hnw (v &&& (18446744073709551615 - 2 ^ (x % 64))) (Nat.lt_of_le_of_lt Nat.and_le_left hv) (fun j hj _ => by
        rw [if_pos ⟨rfl, by omega⟩, show (64 * (x / 64) + j) % 64 = j from by omega]) (fun y' x' _ _ hne => if_neg (by omega))
      exact hA0.keep fun _ _ => rfl
    refine hA.setw y (x / 64) hy hnw (setW v (x % 64) s) (setW_lt v _ s hv hj hs) (fun j hj' hl => ?_) (fun y' x' _ _ hne => ?_)
    · rw [setW_bit v _ s j hj' hj hs]
      unfold setF
      by_cases e : j = x % 64
      · rw [if_pos ⟨rfl, by omega⟩, if_pos e]
        rcases (by omega : s = 0 ∨ s = 1) with rfl | rfl <;> rfl
      · rw [if_neg (by omega), if_neg e]
        exact hbit j hj' hl
    · show setF f y x s y' x' = if _ then _ else _
      rw [if_neg (by omega)]
      unfold setF
      rw [if_neg (by rintro ⟨a, b⟩; subst a b; simp at hne)]
  have hwr : Wrote (bytesS gr H G) w ((((w.alloc (.cells #[.slice (some ⟨gr, 0, none⟩) H c] 117)).setCell ⟨G y, x / 64, none⟩ (.int .u64 ((v &&& (18446744073709551615 - 2 ^ (x % 64)) : Nat) : Int))).drew).setCell ⟨G y, x / 64, none⟩ (.int .u64 (setW v (x % 64) s))) :=
    (((Wrote.of_below (boxed w _)).setCell (p := ⟨G y, x / 64, none⟩) (.inl (.inr ⟨y, hy, rfl⟩)) _).drew).setCell (p := ⟨G y, x / 64, none⟩) (.inl (.inr ⟨y, hy, rfl⟩)) _
  have HF := Lib.hid hfin; have HWR := Lib.hid hwr
  have E1 := Lib.hid e1; have E2 := Lib.hid e2
  clear hfin hwr e1 e2 h h1 hbit
  go_enter Try.func118, Try.ntmps118
  go_wp2_with (first | fail)
  go_region
  rw [E1.out]
  go_wp2_with (first | fail)
  go_region
  rw [E2.out]
  go_wp2
  go_end0
  exact ⟨rfl, HF.out.keep fun _ _ => rfl, HWR.out.os, HWR.out.tape, HWR.out.output, HWR.out.size, HWR.out.block⟩
end Go.Proofs.Ytdpcmpfhjhbicaa
