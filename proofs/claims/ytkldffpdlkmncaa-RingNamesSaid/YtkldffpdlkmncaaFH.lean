/- Rows of bits: blank rows. -/
import Derived.Test.YtkldffpdlkmncaaFG
import Derived.Laws.Bits64
import Derived.Laws.BitsAllLaws

set_option linter.unusedVariables false
set_option linter.unusedSimpArgs false
namespace Go.Proofs.Ytkldffpdlkmncaa
open Go.RowKit

theorem u64info : (Try.prog.info? 120).map (fun i => (i.zero, i.size, i.bytes)) = some (some (.int .u64 0), 1, 8) := by kernel_rfl
/-- so many words -/
def nw (n : Nat) : Nat := (n + 63) / 64
theorem nw_le {n : Nat} (h : n ≤ 65538) : nw n ≤ 1025 := by unfold nw; omega
theorem nw_pos {n : Nat} (h : 0 < n) : 0 < nw n := by unfold nw; omega
def zwords (n : Nat) : Array Value := madeCells #[.int .u64 0] n

theorem make_words (n : Nat) (h : n ≤ 65538) (w : World) :
    (Instr.makeSlice 66 (.int .i64 (((n : Int) + 63) / 64)) (.int .i64 (((n : Int) + 63) / 64))).run Try.prog w = .ok (.slice (some ⟨w.heap.size, 0, none⟩) (nw n) (nw n)) (w.alloc (.cells (zwords (nw n)) 120)) := by
  have := run_makeN (P := Try.prog) Try.underlying66 u64info (nw n) (by have := nw_le h; omega) (by have := nw_le h; omega) w
  have e : (((n : Int) + 63) / 64) = ((nw n : Nat) : Int) := by unfold nw; omega
  rw [e]
  simp only [Nat.mul_one] at this
  exact this

theorem blank_calls (n : Nat) (h : n ≤ 65538) (w : World) :
    Calls Try.prog 70 #[.int .i64 n] w fun e w' => e = .returned (.agg #[.int .i64 n, .slice (some ⟨w.heap.size + 1, 0, none⟩) (nw n) (nw n)]) ∧ w'.heap[w.heap.size + 1]? = some (.cells (zwords (nw n)) 120 (0, 0)) ∧ Below w.heap.size w w' := by
  have hmk := make_words n h
  go_enter Try.func70, Try.ntmps70
  go_wp2
  refine end_c w.heap.size 68 rfl rfl rfl Try.underlying68 rfl ?_
  exact ⟨_, bk_alloc (bk_new _ _) _, by kernel_rfl, rfl, bk_newn _ _ _ (by simp), (boxed _ _).alloc (by simp) _⟩

set_option maxHeartbeats 400000 in
theorem New_row (n : Nat) (h : n ≤ 65538) (w : World) :
    Calls Try.prog 80 #[.int .i64 n] w fun e w' => ∃ g, e = .returned (.tuple #[.agg #[.int .i64 n, .slice (some ⟨g, 0, none⟩) (nw n) (nw n)], .int .i64 0]) ∧ w.heap.size ≤ g ∧ w'.heap[g]? = some (.cells (zwords (nw n)) 120 (0, 0)) ∧ Below w.heap.size w w' := by
  have K0 := bk_new w (.cells #[.int .i64 0, .slice none 0 0] 68)
  have hBw := boxed w (.cells #[.int .i64 0, .slice none 0 0] 68)
  go_enter Try.func80, Try.ntmps80
  go_wp2_with (first | fail)
  refine (blank_calls n h _).mono ?_
  rintro e w1 ⟨rfl, hg, hb⟩
  rw [World.size_alloc] at hg
  have K1 := bk_below K0 hb
  have hc1 := bk_cell K1; have hf1 := bk_free K1
  have HG := Lib.hid hg; clear hg
  go_wp2
  refine end_ct w.heap.size 68 rfl rfl rfl Try.underlying68 rfl ?_
  refine ⟨_, bk_set (bk_set K1 0 _) 1 _, by kernel_rfl, _, rfl, ?_, ?_, ?_⟩
  · omega
  · exact bk_far (bk_far HG.out (by simp; omega) _) (by simp; omega) _
  · exact ((hBw.trans (hb.mono (by simp))).setCell (p := ⟨w.heap.size, 0, none⟩) (Nat.le_refl _) _).setCell (p := ⟨w.heap.size, 1, none⟩) (Nat.le_refl _) _

/-- cells kept as bits: the list of rows lies at block gr, two cells a row; the words of the row y at block G y -/
structure BitsAt (gr : Nat) (W H : Nat) (f : Nat → Nat → Int) (G : Nat → Nat) (w : World) : Prop where
  rows : ∃ cur, w.heap[gr]? = some (.cells cur 68 (0, 0)) ∧ ∀ y, y < H → cur[y * 2]? = some (.int .i64 W) ∧ ∃ c, cur[y * 2 + 1]? = some (.slice (some ⟨G y, 0, none⟩) (nw W) c)
  row : ∀ y, y < H → ∃ cur, w.heap[G y]? = some (.cells cur 120 (0, 0)) ∧ ∀ k, k < nw W → ∃ v : Nat, v < 18446744073709551616 ∧ cur[k]? = some (.int .u64 v) ∧ ∀ j, j < 64 → 64 * k + j < W → f y (64 * k + j) = if v.testBit j then 1 else 0
  inj : ∀ y y', y < H → y' < H → G y = G y' → y = y'

section
variable {gr W H : Nat} {f f' : Nat → Nat → Int} {G : Nat → Nat} {w w' : World}
theorem BitsAt.lt (h : BitsAt gr W H f G w) : ∀ b, bytesS gr H G b → b < w.heap.size := by
  rintro b (rfl | ⟨y, hy, rfl⟩)
  · obtain ⟨cur, hc, _⟩ := h.rows; exact bk_lt hc
  · obtain ⟨cur, hc, _⟩ := h.row y hy; exact bk_lt hc
theorem BitsAt.keep (h : BitsAt gr W H f G w) (hk : ∀ b, bytesS gr H G b → w'.heap[b]? = w.heap[b]?) : BitsAt gr W H f G w' :=
  ⟨let ⟨cur, hc, r⟩ := h.rows; ⟨cur, (hk gr (.inl rfl)).trans hc, r⟩, fun y hy => let ⟨cur, hc, r⟩ := h.row y hy; ⟨cur, (hk _ (.inr ⟨y, hy, rfl⟩)).trans hc, r⟩, h.inj⟩
theorem BitsAt.below (h : BitsAt gr W H f G w) (hb : Below w.heap.size w w') : BitsAt gr W H f G w' := h.keep fun b hS => hb.block b (h.lt b hS)
theorem BitsAt.cong (h : BitsAt gr W H f G w) (hf : ∀ y x, y < H → x < W → f y x = f' y x) : BitsAt gr W H f' G w :=
  ⟨h.rows, fun y hy => let ⟨cur, hc, r⟩ := h.row y hy; ⟨cur, hc, fun k hk => let ⟨v, hv, h1, h2⟩ := r k hk; ⟨v, hv, h1, fun j hj hl => by rw [← hf y _ hy hl]; exact h2 j hj hl⟩⟩, h.inj⟩
theorem BitsAt.rowcell (h : BitsAt gr W H f G w) (y : Nat) (hy : y < H) : ∃ c, w.cell? ⟨gr, y * 2 + 1, none⟩ = some (.slice (some ⟨G y, 0, none⟩) (nw W) c) := by
  obtain ⟨cur, hc, r⟩ := h.rows
  obtain ⟨_, c, hr⟩ := r y hy
  exact ⟨c, by rw [bk_cell hc, hr]⟩
theorem BitsAt.ncell (h : BitsAt gr W H f G w) (y : Nat) (hy : y < H) : w.cell? ⟨gr, y * 2, none⟩ = some (.int .i64 W) := by
  obtain ⟨cur, hc, r⟩ := h.rows
  rw [bk_cell hc, (r y hy).1]
theorem BitsAt.word (h : BitsAt gr W H f G w) (y k : Nat) (hy : y < H) (hk : k < nw W) : ∃ v : Nat, v < 18446744073709551616 ∧ w.cell? ⟨G y, k, none⟩ = some (.int .u64 v) ∧ ∀ j, j < 64 → 64 * k + j < W → f y (64 * k + j) = if v.testBit j then 1 else 0 := by
  obtain ⟨cur, hc, r⟩ := h.row y hy
  obtain ⟨v, h1, h2, h3⟩ := r k hk
  exact ⟨v, h1, by rw [bk_cell hc, h2], h3⟩
theorem BitsAt.free (h : BitsAt gr W H f G w) (y : Nat) (hy : y < H) (x : Nat) : w.frozen? ⟨G y, x, none⟩ = false := by
  obtain ⟨cur, hc, r⟩ := h.row y hy
  exact bk_free hc x
end
theorem lt_nw {x W : Nat} (h : x < W) : x / 64 < nw W := by unfold nw; omega

/-- a bit, as the code reads it -/
theorem bit_get (v j : Nat) (hv : v < 18446744073709551616) : bits BinOp.and IntKind.u64 ((v : Int) / 2 ^ j) 1 % 256 = if v.testBit j then 1 else 0 := by
  have e : ((v : Int) / 2 ^ j) = ((v / 2 ^ j : Nat) : Int) := by simp
  have h2 : v / 2 ^ j < 18446744073709551616 := Nat.lt_of_le_of_lt (Nat.div_le_self _ _) hv
  rw [e, show (1 : Int) = ((1 : Nat) : Int) from rfl, u64_and_nat _ _ h2 (by omega), Nat.and_one_is_mod, Nat.testBit_eq_decide_div_mod_eq]
  by_cases h : v / 2 ^ j % 2 = 1
  · simp [h]
  · have : v / 2 ^ j % 2 = 0 := by omega
    simp [this]
/-- a word in which a bit is made another one -/
def setW (v j s : Nat) : Nat := (v &&& (18446744073709551615 - 2 ^ j)) ||| (s * 2 ^ j)
theorem setW_lt (v j s : Nat) (hv : v < 18446744073709551616) (hj : j < 64) (hs : s ≤ 1) : setW v j s < 18446744073709551616 := by
  have h1 : v &&& (18446744073709551615 - 2 ^ j) < 2 ^ 64 := Nat.lt_of_le_of_lt Nat.and_le_left hv
  have h2 : s * 2 ^ j < 2 ^ 64 := by
    have : 2 ^ j < 2 ^ 64 := Nat.pow_lt_pow_right (by omega) hj
    rcases (by omega : s = 0 ∨ s = 1) with rfl | rfl <;> omega
  exact Nat.or_lt_two_pow h1 h2
theorem testBit_mask (j i : Nat) (hi : i < 64) (hj : j < 64) : (18446744073709551615 - 2 ^ j).testBit i = decide (i ≠ j) := by
  have : (18446744073709551615 - 2 ^ j) = 2 ^ 64 - (2 ^ j + 1) := by have : 2 ^ j < 2 ^ 64 := Nat.pow_lt_pow_right (by omega) hj; omega
  rw [this, Nat.testBit_two_pow_sub_succ (Nat.pow_lt_pow_right (by omega) hj), Nat.testBit_two_pow]
  simp [hi, eq_comm]
theorem wrap_bit (j s : Nat) (hj : j < 64) (hs : s ≤ 1) : IntKind.u64.wrap ((s : Int) * 2 ^ j) = ((s * 2 ^ j : Nat) : Int) := by
  have h1 : 2 ^ j < 2 ^ 64 := Nat.pow_lt_pow_right (by omega) hj
  have h2 : s * 2 ^ j < 18446744073709551616 := by
    rcases (by omega : s = 0 ∨ s = 1) with rfl | rfl <;> omega
  rw [IntKind.wrap_u64]
  have e : ((s : Int) * 2 ^ j) = ((s * 2 ^ j : Nat) : Int) := by simp
  rw [e]
  omega
theorem wrap_bit1 (j : Nat) (hj : j < 64) : IntKind.u64.wrap (2 ^ j) = ((2 ^ j : Nat) : Int) := by
  have := wrap_bit j 1 hj (by omega)
  simpa using this
theorem bit_clear (v j : Nat) (hv : v < 18446744073709551616) (hj : j < 64) : bits BinOp.andNot IntKind.u64 (v : Int) (IntKind.u64.wrap (2 ^ j)) = ((v &&& (18446744073709551615 - 2 ^ j) : Nat) : Int) := by
  have h1 : 2 ^ j < 2 ^ 64 := Nat.pow_lt_pow_right (by omega) hj
  rw [wrap_bit1 j hj, u64_andNot_nat _ _ hv (by omega)]
theorem bit_set (v j s : Nat) (hv : v < 18446744073709551616) (hj : j < 64) (hs : s ≤ 1) : bits BinOp.or IntKind.u64 ((v &&& (18446744073709551615 - 2 ^ j) : Nat) : Int) (IntKind.u64.wrap ((s : Int) * 2 ^ j)) = (setW v j s : Int) := by
  have h1 : 2 ^ j < 2 ^ 64 := Nat.pow_lt_pow_right (by omega) hj
  have h2 : s * 2 ^ j < 18446744073709551616 := by
    rcases (by omega : s = 0 ∨ s = 1) with rfl | rfl <;> omega
  rw [wrap_bit j s hj hs, u64_or_nat _ _ (Nat.lt_of_le_of_lt Nat.and_le_left hv) h2]
  rfl
theorem setW_bit (v j s i : Nat) (hi : i < 64) (hj : j < 64) (hs : s ≤ 1) : (setW v j s).testBit i = if i = j then decide (s = 1) else v.testBit i := by
  unfold setW
  rw [Nat.testBit_or, Nat.testBit_and, testBit_mask j i hi hj]
  have : (s * 2 ^ j).testBit i = decide (s = 1 ∧ i = j) := by
    rcases (by omega : s = 0 ∨ s = 1) with rfl | rfl
    · simp
    · simp [Nat.testBit_two_pow, eq_comm]
  rw [this]
  by_cases e : i = j <;> simp [e]

theorem tget {gr W H c : Nat} {f : Nat → Nat → Int} {G : Nat → Nat} {w : World} (h : BitsAt gr W H f G w) (x y : Nat) (hx : x < W) (hy : y < H) (hH : H ≤ 65536) (hW : W ≤ 65536) :
    Calls Try.prog 124 #[.agg #[.slice (some ⟨gr, 0, none⟩) H c], .int .i64 x, .int .i64 y] w fun e w' => e = .returned (.int .u8 (f y x)) ∧ w' = w.alloc (.cells #[.slice (some ⟨gr, 0, none⟩) H c] 139) := by
  have h1 := h.below (boxed w (.cells #[.slice (some ⟨gr, 0, none⟩) H c] 139))
  obtain ⟨c1, hc1⟩ := h1.rowcell y hy
  obtain ⟨v, hv, hc2, hbit⟩ := h1.word y (x / 64) hy (lt_nw hx)
  have hnw := lt_nw hx
  have H1 := Lib.hid h1; have H0 := Lib.hid h; have HB := Lib.hid hbit; clear h h1 hbit
  go_enter Try.func124, Try.ntmps124
  go_wp2
  go_ret
  have e := HB.out (x % 64) (by omega) (by omega)
  rw [show 64 * (x / 64) + x % 64 = x from by omega] at e
  refine ⟨?_, rfl⟩
  rw [e, ← bit_get v _ hv]
  rfl

theorem BitsAt.setw {gr W H : Nat} {f f' : Nat → Nat → Int} {G : Nat → Nat} {w : World} (h : BitsAt gr W H f G w) (y k : Nat) (hy : y < H) (hk : k < nw W) (v' : Nat) (hv' : v' < 18446744073709551616)
    (h1 : ∀ j, j < 64 → 64 * k + j < W → f' y (64 * k + j) = if v'.testBit j then 1 else 0) (h2 : ∀ y' x', y' < H → x' < W → (y' ≠ y ∨ x' / 64 ≠ k) → f' y' x' = f y' x') : BitsAt gr W H f' G (w.setCell ⟨G y, k, none⟩ (.int .u64 v')) := by
  refine ⟨?_, fun y' hy' => ?_, h.inj⟩
  · obtain ⟨cur, hc, r⟩ := h.rows
    refine ⟨cur, bk_far hc ?_ _, r⟩
    obtain ⟨cur', hc', _⟩ := h.row y hy
    rintro rfl
    rw [hc] at hc'
    simp at hc'
  · obtain ⟨cur, hc, r⟩ := h.row y' hy'
    by_cases e : y' = y
    · subst e
      refine ⟨_, bk_set hc k _, fun k' hk' => ?_⟩
      obtain ⟨v, hv, hcv, hb⟩ := r k' hk'
      have hlt : k' < cur.size := (Array.getElem?_eq_some_iff.1 hcv).1
      by_cases e' : k' = k
      · subst e'
        exact ⟨v', hv', by simp [hlt], h1⟩
      · refine ⟨v, hv, by simp [Array.getElem?_setIfInBounds, Ne.symm e', hcv], fun j hj hl => ?_⟩
        rw [h2 y' _ hy hl (.inr (by omega))]
        exact hb j hj hl
    · refine ⟨cur, bk_far hc (fun e2 => e (h.inj _ _ hy' hy e2)) _, fun k' hk' => ?_⟩
      obtain ⟨v, hv, hcv, hb⟩ := r k' hk'
      refine ⟨v, hv, hcv, fun j hj hl => ?_⟩
      rw [h2 y' _ hy' hl (.inl e)]
      exact hb j hj hl

set_option maxHeartbeats 1000000 in
theorem tset {gr W H c : Nat} {f : Nat → Nat → Int} {G : Nat → Nat} {w : World} (h : BitsAt gr W H f G w) (x y : Nat) (s : Nat) (hx : x < W) (hy : y < H) (hs : s ≤ 1) (hH : H ≤ 65536) (hW : W ≤ 65536) :
    Calls Try.prog 125 #[.agg #[.slice (some ⟨gr, 0, none⟩) H c], .int .i64 x, .int .i64 y, .int .u8 s] w fun e w' => e = .returned (.tuple #[]) ∧ BitsAt gr W H (setF f y x s) G w' ∧ Wrote (bytesS gr H G) w w' := by
  have h1 := h.below (boxed w (.cells #[.slice (some ⟨gr, 0, none⟩) H c] 139))
  obtain ⟨c1, hc1⟩ := h1.rowcell y hy
  obtain ⟨v, hv, hc2, hbit⟩ := h1.word y (x / 64) hy (lt_nw hx)
  have hf2 := h1.free y hy (x / 64)
  have hnw := lt_nw hx
  have hj : x % 64 < 64 := by omega
  have e1 := bit_clear v (x % 64) hv hj
  have e2 := bit_set v (x % 64) s hv hj hs
  have hc3 : (((w.alloc (.cells #[.slice (some ⟨gr, 0, none⟩) H c] 139)).setCell ⟨G y, x / 64, none⟩ (.int .u64 ((v &&& (18446744073709551615 - 2 ^ (x % 64)) : Nat) : Int))).drew).cell? ⟨G y, x / 64, none⟩ = some (.int .u64 ((v &&& (18446744073709551615 - 2 ^ (x % 64)) : Nat) : Int)) :=
    World.cell?_setCell_same' _ _ _ (by rw [hc2]; rfl)
  have hf3 : (((w.alloc (.cells #[.slice (some ⟨gr, 0, none⟩) H c] 139)).setCell ⟨G y, x / 64, none⟩ (.int .u64 ((v &&& (18446744073709551615 - 2 ^ (x % 64)) : Nat) : Int))).drew).frozen? ⟨G y, x / 64, none⟩ = false := by
    show World.frozen? (World.setCell _ _ _) _ = false
    rw [World.frozen?_setCell]; exact hf2
  have hfin : BitsAt gr W H (setF f y x s) G ((((w.alloc (.cells #[.slice (some ⟨gr, 0, none⟩) H c] 139)).setCell ⟨G y, x / 64, none⟩ (.int .u64 ((v &&& (18446744073709551615 - 2 ^ (x % 64)) : Nat) : Int))).drew).setCell ⟨G y, x / 64, none⟩ (.int .u64 (setW v (x % 64) s))) := by
    have hA : BitsAt gr W H (fun y' x' => if y' = y ∧ x' / 64 = x / 64 then (if (v &&& (18446744073709551615 - 2 ^ (x % 64))).testBit (x' % 64) then 1 else 0) else f y' x') G (((w.alloc (.cells #[.slice (some ⟨gr, 0, none⟩) H c] 139)).setCell ⟨G y, x / 64, none⟩ (.int .u64 ((v &&& (18446744073709551615 - 2 ^ (x % 64)) : Nat) : Int))).drew) := by
      have hA0 := h1.setw (f' := fun y' x' => if y' = y ∧ x' / 64 = x / 64 then (if (v &&& (18446744073709551615 - 2 ^ (x % 64))).testBit (x' % 64) then 1 else 0) else f y' x') y (x / 64) hy hnw (v &&& (18446744073709551615 - 2 ^ (x % 64))) (Nat.lt_of_le_of_lt Nat.and_le_left hv) (fun j hj _ => by
        rw [if_pos ⟨rfl, by omega⟩, show (64 * (x / 64) + j) % 64 = j from by omega]) (fun y' x' _ _ hne => if_neg (by omega))
      exact hA0.keep fun _ _ => rfl
    refine hA.setw y (x / 64) hy hnw (setW v (x % 64) s) (setW_lt v _ s hv hj hs) (fun j hj' hl => ?_) (fun y' x' _ _ hne => ?_)
    · rw [setW_bit v _ s j hj' hj hs]
      unfold setF
      by_cases e : j = x % 64
      · rw [if_pos ⟨rfl, by omega⟩, if_pos e]
        rcases (by omega : s = 0 ∨ s = 1) with rfl | rfl <;> rfl
      · rw [if_neg (by omega), if_neg e]
        exact hbit j hj' hl
    · show setF f y x s y' x' = if _ then _ else _
      rw [if_neg (by omega)]
      unfold setF
      rw [if_neg (by rintro ⟨a, b⟩; subst a b; simp at hne)]
  have hwr : Wrote (bytesS gr H G) w ((((w.alloc (.cells #[.slice (some ⟨gr, 0, none⟩) H c] 139)).setCell ⟨G y, x / 64, none⟩ (.int .u64 ((v &&& (18446744073709551615 - 2 ^ (x % 64)) : Nat) : Int))).drew).setCell ⟨G y, x / 64, none⟩ (.int .u64 (setW v (x % 64) s))) :=
    (((Wrote.of_below (boxed w _)).setCell (p := ⟨G y, x / 64, none⟩) (.inl (.inr ⟨y, hy, rfl⟩)) _).drew).setCell (p := ⟨G y, x / 64, none⟩) (.inl (.inr ⟨y, hy, rfl⟩)) _
  have HF := Lib.hid hfin; have HWR := Lib.hid hwr
  have E1 := Lib.hid e1; have E2 := Lib.hid e2
  clear hfin hwr e1 e2 h h1 hbit
  go_enter Try.func125, Try.ntmps125
  go_wp2_with (first | fail)
  go_region
  rw [E1.out]
  go_wp2_with (first | fail)
  go_region
  rw [E2.out]
  go_wp2
  go_end0
  exact ⟨rfl, HF.out.keep fun _ _ => rfl, HWR.out.os, HWR.out.tape, HWR.out.output, HWR.out.size, HWR.out.block⟩
end Go.Proofs.Ytkldffpdlkmncaa

/- Cells kept as bits: clear, fresh, copied. -/
set_option linter.unusedVariables false
set_option linter.unusedSimpArgs false
namespace Go.Proofs.Ytkldffpdlkmncaa
open Go.RowKit

theorem zeroU64 (w : World) : (zeroValue 120).run Try.prog w = .ok (.int .u64 0) w := by kernel_rfl

theorem BitsAt.clr {gr W H : Nat} {f : Nat → Nat → Int} {G : Nat → Nat} {w : World} {k : Nat} (h : BitsAt gr W H (clrF k f) G w) (hk : k < H) {cur : Array Value} (hc : w.heap[G k]? = some (.cells cur 120 (0, 0))) (hW : nw W ≤ cur.size) :
    BitsAt gr W H (clrF (k + 1) f) G (w.setRow (G k) (cleared (.int .u64 0) (nw W) cur)) := by
  refine ⟨?_, fun y hy => ?_, h.inj⟩
  · obtain ⟨c2, h2, r⟩ := h.rows
    refine ⟨c2, bk_rowfar h2 ?_ _, r⟩
    rintro rfl
    rw [h2] at hc
    simp at hc
  · obtain ⟨c2, h2, r⟩ := h.row y hy
    by_cases e : y = k
    · subst e
      refine ⟨_, bk_row hc, fun i hi => ⟨0, by omega, ?_, fun j hj hl => ?_⟩⟩
      · rw [cleared_lt hW i hi]; rfl
      · simp [clrF]
    · refine ⟨c2, bk_rowfar h2 (fun e2 => e (h.inj _ _ hy hk e2)) _, fun i hi => ?_⟩
      obtain ⟨v, hv, hcv, hb⟩ := r i hi
      refine ⟨v, hv, hcv, fun j hj hl => ?_⟩
      rw [← hb j hj hl]
      simp only [clrF]
      by_cases h3 : y < k
      · rw [if_pos h3, if_pos (by omega)]
      · rw [if_neg h3, if_neg (by omega)]

end Go.Proofs.Ytkldffpdlkmncaa

/- A new store of bits. -/
set_option linter.unusedVariables false
set_option linter.unusedSimpArgs false
namespace Go.Proofs.Ytkldffpdlkmncaa
open Go.RowKit

theorem brinfo : (Try.prog.info? 68).map (fun i => (i.zero, i.size, i.bytes)) = some (some (.agg #[.int .i64 0, .slice none 0 0]), 2, 32) := by kernel_rfl

/-- the rows, by their words' blocks -/
def rowsT (W : Nat) (L : List Nat) : List Value := L.flatMap fun g => [.int .i64 W, .slice (some ⟨g, 0, none⟩) (nw W) (nw W)]
theorem rowsT_length (W : Nat) (L : List Nat) : (rowsT W L).length = L.length * 2 := by
  induction L with
  | nil => rfl
  | cons g L ih => simp only [rowsT, List.flatMap_cons, List.length_append, List.length_cons, List.length_nil] at ih ⊢; omega
theorem rowsT_at (W : Nat) (L : List Nat) (y : Nat) (hy : y < L.length) : (rowsT W L)[y * 2]? = some (.int .i64 W) ∧ (rowsT W L)[y * 2 + 1]? = some (.slice (some ⟨L.getD y 0, 0, none⟩) (nw W) (nw W)) := by
  induction L generalizing y with
  | nil => simp at hy
  | cons g L ih =>
    cases y with
    | zero => simp [rowsT]
    | succ y =>
      obtain ⟨h1, h2⟩ := ih y (by simpa using hy)
      have e : rowsT W (g :: L) = .int .i64 W :: .slice (some ⟨g, 0, none⟩) (nw W) (nw W) :: rowsT W L := rfl
      rw [e, show (y + 1) * 2 = y * 2 + 1 + 1 from by omega]
      simp only [List.getElem?_cons_succ]
      exact ⟨h1, by simpa [List.getD] using h2⟩

/-- rows that are being made: their list lies in the box B -/
structure MadeT (n₀ B W : Nat) (L : List Nat) (v : Value) (w0 w : World) : Prop where
  box : w.heap[B]? = some (.cells #[v] 139 (0, 0))
  own : w.ownsRow n₀ 68 2 v L.length (rowsT W L)
  rows : ∀ g ∈ L, w.heap[g]? = some (.cells (zwords (nw W)) 120 (0, 0))
  nodup : L.Nodup
  ge : ∀ g ∈ L, n₀ ≤ g
  below : Below n₀ w0 w

theorem MadeT.step {n₀ B W g : Nat} {L : List Nat} {v v' : Value} {w0 w w1 w2 : World} (h : MadeT n₀ B W L v w0 w) (hw : n₀ ≤ w.heap.size)
    (h1 : Below w.heap.size w w1) (hgw : w.heap.size ≤ g) (hz : w1.heap[g]? = some (.cells (zwords (nw W)) 120 (0, 0)))
    (hown : w2.ownsRow n₀ 68 2 v' (L.length + 1) (rowsT W L ++ [.int .i64 W, .slice (some ⟨g, 0, none⟩) (nw W) (nw W)])) (hg : w1.grownBy w2 v.ownBlock) (hBn : n₀ ≤ B) :
    MadeT n₀ B W (L ++ [g]) v' w0 (w2.setCell ⟨B, 0, none⟩ v') := by
  have o1 := own_below h.own h1
  have kB : w2.heap[B]? = some (.cells #[v] 139 (0, 0)) := by
    have := bk_below h.box h1
    exact (hg.block B (bk_lt this) (own_ne o1 this (by decide))).trans this
  refine ⟨bk_eq (bk_set kB 0 _) (by simp), ?_, ?_, ?_, ?_, ?_⟩
  · have e : rowsT W (L ++ [g]) = rowsT W L ++ [.int .i64 W, .slice (some ⟨g, 0, none⟩) (nw W) (nw W)] := by simp [rowsT]
    rw [e, List.length_append, List.length_singleton]
    refine hown.kept (grownBy_setCellB w2 B v') ?_
    exact .inr (own_ne hown kB (by decide)).symm
  · intro g' hg'
    have key : w1.heap[g']? = some (.cells (zwords (nw W)) 120 (0, 0)) := by
      rcases List.mem_append.1 hg' with hm | hm
      · exact bk_below (h.rows g' hm) h1
      · rw [List.mem_singleton.1 hm]; exact hz
    have k2 := (hg.block g' (bk_lt key) (own_ne o1 key (by decide))).trans key
    refine bk_far k2 ?_ _
    rintro rfl
    rw [kB] at k2
    simp at k2
  · refine List.nodup_append.2 ⟨h.nodup, by simp, ?_⟩
    intro a ha b hb
    have := bk_lt (h.rows a ha)
    rw [List.mem_singleton.1 hb]; omega
  · intro g' hg'
    rcases List.mem_append.1 hg' with hm | hm
    · exact h.ge g' hm
    · rw [List.mem_singleton.1 hm]; omega
  · refine Below.setCell (p := ⟨B, 0, none⟩) ?_ hBn _
    refine (h.below.trans (h1.mono hw)).grown hg (Nat.le_trans hw h1.size) ?_
    intro k hk
    exact own_block h.own k hk

theorem MadeT.done {n₀ B W : Nat} {L : List Nat} {v : Value} {w0 w : World} (h : MadeT n₀ B W L v w0 w) (h0 : 0 < L.length) :
    ∃ gr c, v = .slice (some ⟨gr, 0, none⟩) L.length c ∧ BitsAt gr W L.length (fun _ _ => 0) (fun y => L.getD y 0) w ∧ ∀ b, bytesS gr L.length (fun y => L.getD y 0) b → n₀ ≤ b := by
  rcases h.own.2 with ⟨_, h1⟩ | ⟨gr, cap, cur, rfl, hb, hg, hcap, hn, hz, ht⟩
  · omega
  · have tk : ∀ i u, i < L.length * 2 → (rowsT W L)[i]? = some u → cur[i]? = some u := by
      intro i u hi hu
      rw [← ht, List.getElem?_take_of_lt hi] at hu
      simpa using hu
    refine ⟨gr, cap, rfl, ⟨⟨cur, hg, fun y hy => ⟨tk _ _ (by omega) (rowsT_at W L y hy).1, nw W, tk _ _ (by omega) (rowsT_at W L y hy).2⟩⟩, fun y hy => ?_, ?_⟩, ?_⟩
    · exact ⟨_, h.rows _ (getD_mem hy), fun k hk => ⟨0, by omega, by unfold zwords; exact made_at (z := .int .u64 0) rfl _ _ hk, fun j hj hl => by simp⟩⟩
    · intro y y' hy hy' e
      simp only [List.getD, List.getElem?_eq_getElem hy, List.getElem?_eq_getElem hy', Option.getD_some] at e
      exact (List.getElem_inj h.nodup).1 e
    · rintro b (rfl | ⟨y, hy, rfl⟩)
      · exact hb
      · exact h.ge _ (getD_mem hy)

set_option maxRecDepth 20000 in
set_option maxHeartbeats 2000000 in
theorem tfresh (W H : Nat) (St : Int) (w : World) (hW0 : 0 < W) (hW : W ≤ 65536) (hH0 : 0 < H) (hH : H ≤ 65536) :
    Calls Try.prog 56 #[.agg #[.int .i64 W, .int .i64 H, .int .i64 St], .bool true] w fun e w' => ∃ gr c G, e = .returned (.iface 139 (.agg #[.slice (some ⟨gr, 0, none⟩) H c])) ∧
      BitsAt gr W H (fun _ _ => 0) G w' ∧ (∀ b, bytesS gr H G b → w.heap.size ≤ b) ∧ Below w.heap.size w w' := by
  have KS := bk_alloc (bk_newn w (.cells #[.int .i64 W, .int .i64 H, .int .i64 St] 27) w.heap.size rfl) (.cells #[.slice none 0 0] 139)
  have KB := bk_newn (w.alloc (.cells #[.int .i64 W, .int .i64 H, .int .i64 St] 27)) (.cells #[.slice none 0 0] 139) (w.heap.size + 1) (by simp)
  have hBw : Below w.heap.size w ((w.alloc (.cells #[.int .i64 W, .int .i64 H, .int .i64 St] 27)).alloc (.cells #[.slice none 0 0] 139)) := (boxed _ _).alloc (by simp) _
  go_enter Try.func56, Try.ntmps56
  go_wp2_with (first | fail)
  generalize ((w.alloc (.cells #[.int .i64 W, .int .i64 H, .int .i64 St] 27)).alloc (.cells #[.slice none 0 0] 139)) = W0 at *
  go_loopw [13] (fun i wr => ∃ (k : Nat) (L : List Nat) (v : Value), i = .int .i64 k ∧ k ≤ H ∧ Hid (L.length = k) ∧ wr.heap[w.heap.size]? = some (.cells #[.int .i64 W, .int .i64 H, .int .i64 St] 27 (0, 0)) ∧ Hid (MadeT w.heap.size (w.heap.size + 1) W L v w wr)) (fun i _ => H - (intOf i).toNat)
  case atStart => exact ⟨0, [], .slice none 0 0, rfl, Nat.zero_le _, rfl, KS, ⟨KB, World.ownsRow_nil _ _ _ _, by simp, by simp, by simp, hBw⟩⟩
  clear KS KB hBw
  obtain ⟨k, L, v, rfl, hk, HL, KS, HM⟩ := hrel
  by_cases hlt : k < H
  · have hcS := bk_cell KS
    have hsz := HM.out.below.size
    have hb1 := bk_lt HM.out.box
    go_wp2_with (first | fail)
    refine (New_row W (by omega) _).mono ?_
    rintro e w1 ⟨g, rfl, hg1, hgz, hbn⟩
    have hcB := bk_cell (bk_alloc (bk_below HM.out.box hbn) (.cells #[.int .i64 W, .slice (some ⟨g, 0, none⟩) (nw W) (nw W)] 68))
    have hown0 := Lib.hid (own_below HM.out.own hbn)
    have HG := Lib.hid hgz; clear hgz
    have hs1 := hbn.size
    have Kn := bk_newn (w1.alloc (.cells #[.int .i64 W, .slice (some ⟨g, 0, none⟩) (nw W) (nw W)] 68)) (.cells #[.int .i64 W, .slice (some ⟨g, 0, none⟩) (nw W) (nw W)] 68) (w1.heap.size + 1) (by simp)
    have hnb : Below wr.heap.size wr ((w1.alloc (.cells #[.int .i64 W, .slice (some ⟨g, 0, none⟩) (nw W) (nw W)] 68)).alloc (.cells #[.int .i64 W, .slice (some ⟨g, 0, none⟩) (nw W) (nw W)] 68)) := (hbn.alloc hs1 _).alloc (by simp; omega) _
    have ob := own_block (own_below HM.out.own hnb)
    clear hcS
    go_wp2_with (first
      | (at_builtin; refine app_rd rfl _ _ 38 (by rfl) w.heap.size 68 (.agg #[.int .i64 0, .slice none 0 0]) 2 32 Try.underlying38 brinfo rfl (by decide) v L.length (rowsT W L) (by rfl) (own_below HM.out.own hnb) (some ⟨w1.heap.size + 1, 0, none⟩) 1 1 [.int .i64 W, .slice (some ⟨g, 0, none⟩) (nw W) (nw W)] (by rfl) (Rd.of_block Kn (by simp)) (by rfl) (by simp [Value.oneCell']) (by have := HL.out; unfold maxLen; omega) (by have := HL.out; omega) (by simp; omega) ?_; intro v1 w2 hown2 hb2 hg2; have kB2 : w2.heap[w.heap.size + 1]? = some (.cells #[v] 139 (0, 0)) := (hg2.block _ (by simp; omega) (own_ne (own_below HM.out.own hnb) (bk_below HM.out.box hnb) (by decide))).trans (bk_below HM.out.box hnb); have hcx := bk_cell kB2; have hfx := bk_free kB2; obtain ⟨A1, c1, rfl⟩ := own_slice hown2))
    have hR := Lib.hid (HM.out.step hsz hnb hg1 (bk_alloc (bk_alloc HG.out _) _) hown2 hg2 (by omega))
    have kS2 := bk_far ((hg2.block w.heap.size (by simp; omega) (own_ne (own_below HM.out.own hnb) (bk_below KS hnb) (by decide))).trans (bk_below KS hnb)) (p := ⟨w.heap.size + 1, 0, none⟩) (by simp) (.slice A1 (L.length + 1) c1)
    have HL2 : Hid ((L ++ [g]).length = k + 1) := by show (L ++ [g]).length = k + 1; rw [List.length_append, HL.out]; rfl
    go_roundw
    case rel => exact ⟨k + 1, _, _, by go_num, by omega, HL2, kS2, hR⟩
    case measure => simp [intOf]; omega
  · obtain rfl : k = H := by omega
    obtain ⟨gr, c, rfl, hby, hge⟩ := HM.out.done (by rw [HL.out]; exact hH0)
    rw [HL.out] at hby hge
    have hbl := HM.out.below
    have hcB := bk_cell HM.out.box
    rw [HL.out] at hcB
    clear HM KS
    have HBY := Lib.hid hby; have HGE := Lib.hid hge; clear hby hge
    go_wp2
    go_ret
    exact ⟨gr, c, _, rfl, HBY.out, HGE.out, hbl⟩
end Go.Proofs.Ytkldffpdlkmncaa

/- A store of bits, copied. -/
set_option linter.unusedVariables false
set_option linter.unusedSimpArgs false
namespace Go.Proofs.Ytkldffpdlkmncaa
open Go.RowKit

theorem aset_same {a : Array Value} {i : Nat} (h : i < a.size) (v : Value) : (a.setIfInBounds i v)[i]? = some v := by simp [h]

/-- rows that are being copied -/
structure CopiedT (n₀ gr W H : Nat) (f : Nat → Nat → Int) (L : List Nat) (w0 w : World) : Prop where
  rows : ∃ cur, w.heap[gr]? = some (.cells cur 68 (0, 0)) ∧ cur.size = H * 2 ∧ ∀ y, y < L.length → cur[y * 2]? = some (.int .i64 W) ∧ ∃ c, cur[y * 2 + 1]? = some (.slice (some ⟨L.getD y 0, 0, none⟩) (nw W) c)
  row : ∀ y, y < L.length → ∃ cur, w.heap[L.getD y 0]? = some (.cells cur 120 (0, 0)) ∧ ∀ k, k < nw W → ∃ v : Nat, v < 18446744073709551616 ∧ cur[k]? = some (.int .u64 v) ∧ ∀ j, j < 64 → 64 * k + j < W → f y (64 * k + j) = if v.testBit j then 1 else 0
  nodup : L.Nodup
  ge : ∀ g ∈ L, n₀ ≤ g
  lt : ∀ g ∈ L, g < w.heap.size
  below : Below n₀ w0 w

theorem CopiedT.step {n₀ gr W H : Nat} {f : Nat → Nat → Int} {L : List Nat} {w0 w w1 : World} {g c : Nat} (h : CopiedT n₀ gr W H f L w0 w) (hw : n₀ ≤ w.heap.size) (hgr : n₀ ≤ gr)
    (h1 : Below w.heap.size w w1) (hgw : w.heap.size ≤ g) (kn : ∃ cur, w1.heap[g]? = some (.cells cur 120 (0, 0)) ∧ ∀ k, k < nw W → ∃ v : Nat, v < 18446744073709551616 ∧ cur[k]? = some (.int .u64 v) ∧ ∀ j, j < 64 → 64 * k + j < W → f L.length (64 * k + j) = if v.testBit j then 1 else 0) (hlt : L.length < H) :
    CopiedT n₀ gr W H f (L ++ [g]) w0 ((w1.setCell ⟨gr, L.length * 2, none⟩ (.int .i64 W)).setCell ⟨gr, L.length * 2 + 1, none⟩ (.slice (some ⟨g, 0, none⟩) (nw W) c)) := by
  obtain ⟨cur, hc, hsz, hr⟩ := h.rows
  obtain ⟨cn, hn, hnr⟩ := kn
  have hc1 := bk_below hc h1
  have hne1 : g ≠ gr := by have := bk_lt hc; omega
  refine ⟨⟨_, bk_set (bk_set hc1 _ _) _ _, by simpa using hsz, fun y hy => ?_⟩, fun y hy => ?_, ?_, ?_, ?_, ?_⟩
  · rw [List.length_append, List.length_singleton] at hy
    by_cases e : y = L.length
    · subst e
      refine ⟨?_, c, ?_⟩
      · rw [Array.getElem?_setIfInBounds_ne (by omega)]
        exact aset_same (by omega) _
      · rw [getD_last]
        exact aset_same (by simp; omega) _
    · obtain ⟨h2, c', hc'⟩ := hr y (by omega)
      refine ⟨?_, c', ?_⟩
      · rw [Array.getElem?_setIfInBounds_ne (by omega), Array.getElem?_setIfInBounds_ne (by omega)]; exact h2
      · rw [getD_app (by omega), Array.getElem?_setIfInBounds_ne (by omega), Array.getElem?_setIfInBounds_ne (by omega)]; exact hc'
  · rw [List.length_append, List.length_singleton] at hy
    by_cases e : y = L.length
    · subst e
      rw [getD_last]
      exact ⟨cn, bk_far (bk_far hn hne1 _) hne1 _, hnr⟩
    · rw [getD_app (by omega)]
      obtain ⟨cu, hcu, hru⟩ := h.row y (by omega)
      have hne2 : L.getD y 0 ≠ gr := by
        intro e2
        rw [e2, hc] at hcu
        simp at hcu
      exact ⟨cu, bk_far (bk_far (bk_below hcu h1) hne2 _) hne2 _, hru⟩
  · refine List.nodup_append.2 ⟨h.nodup, by simp, ?_⟩
    intro a ha b hb
    have := h.lt a ha
    rw [List.mem_singleton.1 hb]; omega
  · intro g' hg
    rcases List.mem_append.1 hg with hm | hm
    · exact h.ge g' hm
    · rw [List.mem_singleton.1 hm]; omega
  · intro g' hg
    have : ((w1.setCell ⟨gr, L.length * 2, none⟩ (.int .i64 W)).setCell ⟨gr, L.length * 2 + 1, none⟩ (.slice (some ⟨g, 0, none⟩) (nw W) c)).heap.size = w1.heap.size := by simp [World.setCell]
    rw [this]
    have h2 := bk_lt hn
    rcases List.mem_append.1 hg with hm | hm
    · have := h.lt g' hm; have := h1.size; omega
    · rw [List.mem_singleton.1 hm]; exact h2
  · exact ((h.below.trans (h1.mono hw)).setCell (p := ⟨gr, L.length * 2, none⟩) hgr _).setCell (p := ⟨gr, L.length * 2 + 1, none⟩) hgr _

theorem CopiedT.done {n₀ gr W : Nat} {f : Nat → Nat → Int} {L : List Nat} {w0 w : World} (h : CopiedT n₀ gr W L.length f L w0 w) (hgr : n₀ ≤ gr) :
    BitsAt gr W L.length f (fun y => L.getD y 0) w ∧ ∀ b, bytesS gr L.length (fun y => L.getD y 0) b → n₀ ≤ b := by
  refine ⟨⟨let ⟨cur, hc, _, hr⟩ := h.rows; ⟨cur, hc, hr⟩, h.row, fun y y' hy hy' e => ?_⟩, ?_⟩
  · simp only [List.getD, List.getElem?_eq_getElem hy, List.getElem?_eq_getElem hy', Option.getD_some] at e
    exact (List.getElem_inj h.nodup).1 e
  · rintro b (rfl | ⟨y, hy, rfl⟩)
    · exact hgr
    · exact h.ge _ (getD_mem hy)

/-- the words of a row that lies somewhere, as a list -/
theorem words_list {cur : Array Value} {n : Nat} {P : Nat → Nat → Prop} (h : ∀ k, k < n → ∃ v : Nat, v < 18446744073709551616 ∧ cur[k]? = some (.int .u64 v) ∧ P k v) :
    ∃ l : List Nat, l.length = n ∧ (∀ k, k < n → cur[k]? = some (.int .u64 (l.getD k 0))) ∧ ∀ k, k < n → l.getD k 0 < 18446744073709551616 ∧ P k (l.getD k 0) := by
  induction n with
  | zero => exact ⟨[], rfl, by simp, by simp⟩
  | succ n ih =>
    obtain ⟨l, h1, h2, h3⟩ := ih fun k hk => h k (by omega)
    obtain ⟨v, hv, hc, hp⟩ := h n (by omega)
    have ea : ∀ k, k < n → (l ++ [v]).getD k 0 = l.getD k 0 := fun k hk => getD_app (by omega)
    have eb : (l ++ [v]).getD n 0 = v := by have := getD_last (L := l) (g := v); rwa [h1] at this
    refine ⟨l ++ [v], by simp [h1], fun k hk => ?_, fun k hk => ?_⟩
    · by_cases e : k = n
      · subst e; rw [eb]; exact hc
      · rw [ea k (by omega)]; exact h2 k (by omega)
    · by_cases e : k = n
      · subst e; rw [eb]; exact ⟨hv, hp⟩
      · rw [ea k (by omega)]; exact h3 k (by omega)
/-- words as cells -/
def wordL (l : List Nat) : List Value := l.map fun (v : Nat) => Value.int .u64 (v : Int)
theorem wordL_at {l : List Nat} {k : Nat} (h : k < l.length) : (wordL l)[k]? = some (.int .u64 (l.getD k 0 : Nat)) := by
  simp [wordL, List.getElem?_eq_getElem h, List.getD]
theorem wordL_one (l : List Nat) : ∀ u ∈ wordL l, u.oneCell' = true := by
  intro u hu
  obtain ⟨x, _, rfl⟩ := List.mem_map.1 hu
  rfl

end Go.Proofs.Ytkldffpdlkmncaa
