/- words: Of. -/
import Derived.Test.YtkldffpdlkmncaaFH
import Derived.BigRegion
set_option linter.unusedVariables false
set_option linter.unusedSimpArgs false
namespace Go.Proofs.Ytkldffpdlkmncaa
open Go.RowKit Go.Viv

/-- a row of n bits whose first m are as B says, none else set -/
structure RowW (g n : Nat) (B : Nat → Bool) (m : Nat) (w : World) : Prop where
  ex : ∃ cur : Array Value, w.heap[g]? = some (.cells cur 120 (0, 0)) ∧ cur.size = nw n ∧ ∀ k, k < nw n → ∃ v : Nat, v < 18446744073709551616 ∧ cur[k]? = some (.int .u64 v) ∧ ∀ j, j < 64 → v.testBit j = (decide (64 * k + j < m) && B (64 * k + j))
section
variable {g n m : Nat} {B : Nat → Bool} {w w' : World}
theorem RowW.lt (h : RowW g n B m w) : g < w.heap.size := let ⟨_, a, _⟩ := h.ex; bk_lt a
theorem RowW.keep (h : RowW g n B m w) (hk : w'.heap[g]? = w.heap[g]?) : RowW g n B m w' := let ⟨c, a, b⟩ := h.ex; ⟨c, hk.trans a, b⟩
theorem RowW.below (h : RowW g n B m w) (hb : Below w.heap.size w w') : RowW g n B m w' := h.keep (hb.block g h.lt)
theorem RowW.word (h : RowW g n B m w) {k : Nat} (hk : k < nw n) : ∃ v : Nat, v < 18446744073709551616 ∧ w.cell? ⟨g, k, none⟩ = some (.int .u64 v) ∧ ∀ j, j < 64 → v.testBit j = (decide (64 * k + j < m) && B (64 * k + j)) := by
  obtain ⟨cur, a, b, c⟩ := h.ex
  obtain ⟨v, h1, h2, h3⟩ := c k hk
  exact ⟨v, h1, by rw [bk_cell a, h2], h3⟩
theorem RowW.free (h : RowW g n B m w) (i : Nat) : w.frozen? ⟨g, i, none⟩ = false := let ⟨_, a, _⟩ := h.ex; bk_free a i
/-- one more bit, not set -/
theorem RowW.zero (h : RowW g n B m w) (hm : m < n) (hB : B m = false) : RowW g n B (m + 1) w := by
  obtain ⟨cur, a, b, c⟩ := h.ex
  refine ⟨cur, a, b, fun k hk => ?_⟩
  obtain ⟨v, h1, h2, h3⟩ := c k hk
  refine ⟨v, h1, h2, fun j hj => ?_⟩
  rw [h3 j hj]
  by_cases e : 64 * k + j = m
  · rw [e, hB]; simp
  · by_cases h : 64 * k + j < m
    · rw [decide_eq_true h, decide_eq_true (by omega)]
    · rw [decide_eq_false h, decide_eq_false (by omega)]
/-- one more bit, set -/
theorem RowW.one (h : RowW g n B m w) (hm : m < n) (hB : B m = true) {v : Nat} (hv : w.cell? ⟨g, m / 64, none⟩ = some (.int .u64 v)) {v' : Int} (hv' : v' = ((v ||| 2 ^ (m % 64) : Nat) : Int)) : RowW g n B (m + 1) (w.setCell ⟨g, m / 64, none⟩ (.int .u64 v')) := by
  obtain ⟨cur, a, b, c⟩ := h.ex
  refine ⟨_, bk_set a _ _, by simpa using b, fun k hk => ?_⟩
  obtain ⟨u, h1, h2, h3⟩ := c k hk
  by_cases e : k = m / 64
  · subst e
    rw [bk_cell a, h2] at hv
    obtain rfl : u = v := by have : (u : Int) = (v : Int) := by simpa using hv
                             omega
    have hj0 : m % 64 < 64 := Nat.mod_lt _ (by decide)
    have h2p : 2 ^ (m % 64) < 2 ^ 64 := Nat.pow_lt_pow_right (by decide) hj0
    refine ⟨u ||| 2 ^ (m % 64), ?_, ?_, fun j hj => ?_⟩
    · exact Nat.or_lt_two_pow (n := 64) h1 h2p
    · rw [Array.getElem?_setIfInBounds_self_of_lt (by omega), hv']
    · rw [Nat.testBit_or, h3 j hj, Nat.testBit_two_pow]
      by_cases e2 : m % 64 = j
      · have e3 : 64 * (m / 64) + j = m := by omega
        rw [e3, hB]; simp [e2]
      · have e3 : 64 * (m / 64) + j ≠ m := by omega
        rw [decide_eq_false e2, Bool.or_false]
        by_cases h : 64 * (m / 64) + j < m
        · rw [decide_eq_true h, decide_eq_true (by omega)]
        · rw [decide_eq_false h, decide_eq_false (by omega)]
  · refine ⟨u, h1, by rw [Array.getElem?_setIfInBounds_ne (fun h => e h.symm)]; exact h2, fun j hj => ?_⟩
    rw [h3 j hj]
    have e3 : 64 * k + j ≠ m := by omega
    by_cases h : 64 * k + j < m
    · rw [decide_eq_true h, decide_eq_true (by omega)]
    · rw [decide_eq_false h, decide_eq_false (by omega)]
end
theorem bit_or (v j : Nat) (hv : v < 18446744073709551616) (hj : j < 64) : bits BinOp.or IntKind.u64 (v : Int) (IntKind.u64.wrap (2 ^ j)) = ((v ||| 2 ^ j : Nat) : Int) := by
  have h1 : 2 ^ j < 2 ^ 64 := Nat.pow_lt_pow_right (by omega) hj
  rw [wrap_bit1 j hj, u64_or_nat _ _ hv (by omega)]

/-- what Of comes to -/
def OfP (n : Nat) (B : Nat → Bool) (w : World) (e : Ending) (w' : World) : Prop :=
  ∃ g, e = .returned (.tuple #[.agg #[.int .i64 n, .slice (some ⟨g, 0, none⟩) (nw n) (nw n)], .int .i64 0]) ∧ w.heap.size ≤ g ∧ RowW g n B n w' ∧ Below w.heap.size w w'
set_option maxRecDepth 20000 in
set_option maxHeartbeats 4000000 in
theorem wOf_calls {A : Option Addr} {n c : Nat} {B : Nat → Bool} {w : World} (hn : n ≤ 65538) (hr : ∀ i, i < n → ∃ b off, A = some ⟨b, off, none⟩ ∧ b < w.heap.size ∧ w.cell? ⟨b, off + i, none⟩ = some (.bool (B i))) :
    Calls Try.prog 45 #[.slice A n c] w (OfP n B w) := by
  have K0 := bk_new w (.cells #[.int .i64 0, .slice none 0 0] 68)
  have HBw := Lib.hid (boxed w (.cells #[.int .i64 0, .slice none 0 0] 68))
  have HR := Lib.hid hr
  have d1 : decide (65538 < (n : Int)) = false := decide_eq_false (by omega)
  clear hr
  go_enter Try.func45, Try.ntmps45
  go_wp2_with (first | fail)
  refine (blank_calls n hn _).mono ?_
  rintro e w1 ⟨rfl, hg, hb⟩
  simp only [World.size_alloc] at hg ⊢
  have KR1 := Lib.hid (bk_alloc (bk_below K0 hb) (.cells #[.int .i64 n, .slice (some ⟨w.heap.size + 1 + 1, 0, none⟩) (nw n) (nw n)] 68))
  have KT1 := Lib.hid (bk_new w1 (.cells #[.int .i64 n, .slice (some ⟨w.heap.size + 1 + 1, 0, none⟩) (nw n) (nw n)] 68))
  have HB1 := Lib.hid ((next HBw.out hb).alloc (next HBw.out hb).size (.cells #[.int .i64 n, .slice (some ⟨w.heap.size + 1 + 1, 0, none⟩) (nw n) (nw n)] 68))
  have HW1 : Hid (RowW (w.heap.size + 1 + 1) n B 0 (w1.alloc (.cells #[.int .i64 n, .slice (some ⟨w.heap.size + 1 + 1, 0, none⟩) (nw n) (nw n)] 68))) := ⟨_, bk_alloc hg _, by simp [zwords, madeCells], fun k hk => ⟨0, by omega, by unfold zwords; exact made_at (z := .int .u64 0) rfl _ _ hk, fun j _ => by simp⟩⟩
  have hlt := bk_lt hg
  generalize hG : w.heap.size + 1 + 1 = g at *
  have hg1 : w.heap.size ≤ g := by omega
  have hgR : w.heap.size ≠ g := by omega
  clear hG K0 hg hb
  go_wp2_with (first | fail)
  generalize w1.alloc (.cells #[.int .i64 n, .slice (some ⟨g, 0, none⟩) (nw n) (nw n)] 68) = W1 at *
  generalize hT : w1.heap.size = T at *
  have hTg : T ≠ g := by omega
  have hTR : w.heap.size ≤ T := by omega
  have hTw : w.heap.size ≠ T := by have := bk_lt KR1.out; have := HB1.out.size; omega
  go_loopw [16] (fun vi wr => ∃ i : Nat, vi = .int .i64 (i : Int) ∧ i ≤ n ∧ Hid (wr.heap[w.heap.size]? = some (.cells #[.int .i64 0, .slice none 0 0] 68 (0, 0))) ∧ Hid (wr.heap[T]? = some (.cells #[.int .i64 n, .slice (some ⟨g, 0, none⟩) (nw n) (nw n)] 68 (0, 0))) ∧ Hid (RowW g n B i wr) ∧ Hid (Below w.heap.size w wr)) (fun vi _ => n - (intOf vi).toNat)
  case atStart => exact ⟨0, rfl, by omega, KR1, KT1, HW1, HB1⟩
  clear KR1 KT1 HW1 HB1 hT hlt
  obtain ⟨i, rfl, hi, KR, KT, HW, HB⟩ := hrel
  by_cases hil : i < n
  · have hii : (i : Int) < (n : Int) := by omega
    obtain ⟨b, off, rfl, hbw, hbc⟩ := HR.out i hil
    have kb : wr.cell? ⟨b, off + i, none⟩ = some (.bool (B i)) := (HB.out.cell (p := ⟨b, off + i, none⟩) hbw).trans hbc
    obtain ⟨v, hv, hvc, _⟩ := HW.out.word (k := i / 64) (by unfold nw; omega)
    have hwf := HW.out.free (i / 64)
    have hnw : i / 64 < nw n := by unfold nw; omega
    have hbo := Lib.hid (bit_or v (i % 64) hv (by omega))
    have kt := bk_cell KT.out
    have HZ : Hid (B i = false → RowW g n B (i + 1) wr) := fun h => HW.out.zero hil h
    have HO : Hid (B i = true → RowW g n B (i + 1) (wr.setCell ⟨g, i / 64, none⟩ (.int .u64 ((v ||| 2 ^ (i % 64) : Nat) : Int)))) := fun h => HW.out.one hil h hvc rfl
    obtain ⟨bi, hbi⟩ : ∃ bi, B i = bi := ⟨_, rfl⟩
    rw [hbi] at kb HZ HO
    clear hbi hbc hbw HW
    cases bi
    · go_wp2_with (first | fail)
      go_roundw
      case rel => exact ⟨i + 1, by first | rfl | go_num, by omega, KR, KT, HZ.out (by first | rfl | trivial), HB⟩
      case measure => simp [intOf]; omega
    · go_wp2_with (first | fail)
      go_region
      rw [hbo.out]
      have KR5 := Lib.hid (bk_drew (bk_far KR.out (p := ⟨g, i / 64, none⟩) hgR (.int .u64 ((v ||| 2 ^ (i % 64) : Nat) : Int))))
      have KT5 := Lib.hid (bk_drew (bk_far KT.out (p := ⟨g, i / 64, none⟩) hTg (.int .u64 ((v ||| 2 ^ (i % 64) : Nat) : Int))))
      have HW5 : Hid (RowW g n B (i + 1) (wr.setCell ⟨g, i / 64, none⟩ (.int .u64 ((v ||| 2 ^ (i % 64) : Nat) : Int))).drew) := (HO.out (by first | rfl | trivial)).keep rfl
      have HB5 := Lib.hid ((HB.out.setCell (p := ⟨g, i / 64, none⟩) hg1 (.int .u64 ((v ||| 2 ^ (i % 64) : Nat) : Int))).drew)
      go_wp2_with (first | fail)
      go_roundw
      case rel => exact ⟨i + 1, by first | rfl | go_num, by omega, KR5, KT5, HW5, HB5⟩
      case measure => simp [intOf]; omega
  · obtain rfl : i = n := by omega
    have kt := bk_cell KT.out; have kr := bk_cell KR.out; have kf := bk_free KR.out
    go_wp2_with (first | fail)
    refine end_ct w.heap.size 68 rfl rfl rfl Try.underlying68 rfl ?_
    refine ⟨_, bk_set (bk_set KR.out 0 _) 1 _, by kernel_rfl, g, rfl, hg1, ?_, ?_⟩
    · exact HW.out.keep ((Below.heap_setCell _ _ _ g (by show g ≠ w.heap.size; omega)).trans (Below.heap_setCell _ _ _ g (by show g ≠ w.heap.size; omega)))
    · exact (HB.out.setCell (p := ⟨w.heap.size, 0, none⟩) (Nat.le_refl _) _).setCell (p := ⟨w.heap.size, 1, none⟩) (Nat.le_refl _) _
end Go.Proofs.Ytkldffpdlkmncaa
