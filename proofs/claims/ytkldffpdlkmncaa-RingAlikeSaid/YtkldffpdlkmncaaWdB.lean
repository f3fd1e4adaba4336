/- words: last, Valid, Get. -/
import Derived.Test.YtkldffpdlkmncaaWdA
import Derived.BigQuiet
import Derived.Deep.QuietTactic
set_option linter.unusedVariables false
set_option linter.unusedSimpArgs false
namespace Go.Proofs.Ytkldffpdlkmncaa
open Go.RowKit Go.Viv

theorem rg_wrap_ {a b : Int} (h : a = b) (h1 : -4611686018427387904 ≤ b) (h2 : b ≤ 4611686018427387904) : IntKind.i64.wrap a = b := by rw [h, IntKind.wrap_i64]; omega
def lastV (n : Nat) : Nat := if n % 64 = 0 then 18446744073709551615 else 2 ^ (n % 64) - 1
theorem lastV_lt (n : Nat) : lastV n < 18446744073709551616 := by
  unfold lastV
  split
  · omega
  · have : 2 ^ (n % 64) < 2 ^ 64 := Nat.pow_lt_pow_right (by omega) (Nat.mod_lt _ (by decide))
    omega
theorem last_calls (n : Nat) (w : World) : Calls Try.prog 68 #[.int .i64 n] w fun e w' => e = .returned (.int .u64 (lastV n)) ∧ w' = w := by
  have h64 : n % 64 < 64 := Nat.mod_lt _ (by decide)
  have hp : 2 ^ (n % 64) < 2 ^ 64 := Nat.pow_lt_pow_right (by omega) h64
  have h1 := wrap_bit1 (n % 64) h64
  have h2 : IntKind.u64.wrap (((2 ^ (n % 64) : Nat) : Int) - 1) = ((2 ^ (n % 64) - 1 : Nat) : Int) := by
    have : 1 ≤ 2 ^ (n % 64) := Nat.one_le_two_pow
    rw [IntKind.wrap_u64]; omega
  by_cases hz : n % 64 = 0
  · have HL : Hid ((lastV n : Int) = 18446744073709551615) := by show _ = _; unfold lastV; rw [if_pos hz]; rfl
    have hz2 : ((n : Int) % 64 == 0) = true := by simp; omega
    have hz3 : ((n : Int) % 64) = 0 := by omega
    clear h1 h2 hp h64
    go_enter Try.func68, Try.ntmps68
    go_wp2
    go_ret
    exact ⟨by rw [HL.out]; rfl, rfl⟩
  · have HL : Hid ((lastV n : Int) = ((2 ^ (n % 64) - 1 : Nat) : Int)) := by show _ = _; unfold lastV; rw [if_neg hz]
    have hz2 : ((n : Int) % 64 == 0) = false := by simp; omega
    have hz3 : ¬ ((n : Int) % 64) = 0 := by omega
    have HW1 := Lib.hid h1; have HW2 := Lib.hid h2
    clear h1 h2
    go_enter Try.func68, Try.ntmps68
    go_wp2
    go_ret
    refine ⟨?_, rfl⟩
    show Ending.returned (Value.int .u64 _) = _
    rw [HL.out, ← HW2.out, ← HW1.out]

/-- nothing stands beyond the last bit -/
theorem last_clean {v n q : Nat} {B : Nat → Bool} (hn : 0 < n) (hq : nw n = q + 1) (hv : v < 18446744073709551616) (hb : ∀ j, j < 64 → v.testBit j = (decide (64 * q + j < n) && B (64 * q + j))) : bits BinOp.andNot IntKind.u64 (v : Int) (lastV n : Int) = 0 := by
  rw [u64_andNot_nat _ _ hv (lastV_lt n)]
  have : v &&& (18446744073709551615 - lastV n) = 0 := by
    unfold lastV
    by_cases hz : n % 64 = 0
    · rw [if_pos hz]; simp
    · rw [if_neg hz]
      have hr : n % 64 < 64 := Nat.mod_lt _ (by decide)
      have hp : 2 ^ (n % 64) < 2 ^ 64 := Nat.pow_lt_pow_right (by omega) hr
      have h1 : 1 ≤ 2 ^ (n % 64) := Nat.one_le_two_pow
      apply Nat.eq_of_testBit_eq
      intro i
      rw [Nat.testBit_and, Nat.zero_testBit]
      by_cases hi : i < 64
      · rw [hb i hi]
        have e : 18446744073709551615 - (2 ^ (n % 64) - 1) = 2 ^ 64 - ((2 ^ (n % 64) - 1) + 1) := by omega
        rw [e, Nat.testBit_two_pow_sub_succ (by omega), Nat.testBit_two_pow_sub_one]
        have hqn : n = 64 * q + n % 64 := by unfold nw at hq; omega
        by_cases h : i < n % 64
        · simp [h]
        · rw [decide_eq_false (show ¬ 64 * q + i < n by omega)]; simp
      · rw [Nat.testBit_lt_two_pow (Nat.lt_of_lt_of_le hv (Nat.pow_le_pow_right (n := 2) (by decide) (show 64 ≤ i by omega)))]; simp
  rw [this]; rfl
set_option maxRecDepth 20000 in
set_option maxHeartbeats 4000000 in
theorem wValid_calls {g n : Nat} {B : Nat → Bool} {w : World} (hn : 0 < n) (hn2 : n ≤ 65538) (hW : RowW g n B n w) :
    Calls Try.prog 36 #[.agg #[.int .i64 n, .slice (some ⟨g, 0, none⟩) (nw n) (nw n)]] w (Ret (.bool true) w) := by
  have K0 := bk_new w (.cells #[.int .i64 n, .slice (some ⟨g, 0, none⟩) (nw n) (nw n)] 68)
  have HB := Lib.hid (boxed w (.cells #[.int .i64 n, .slice (some ⟨g, 0, none⟩) (nw n) (nw n)] 68))
  have k0 := bk_cell K0
  have hp := nw_pos hn
  obtain ⟨q, hq⟩ : ∃ q, nw n = q + 1 := ⟨nw n - 1, by omega⟩
  have hnb := nw_le hn2
  obtain ⟨v, hv, hvc, hvb⟩ := (hW.below HB.out).word (k := q) (by omega)
  have hclean := last_clean hn hq hv hvb
  have e1 : ((n : Int) + 63) / 64 = (nw n : Int) := by unfold nw; omega
  have hwq := rg_wrap_ (a := (nw n : Int) - 1) (b := (q : Int)) (by omega) (by omega) (by omega)
  have hqn : q < nw n := by omega
  have hz : ((nw n : Int) == 0) = false := by simp; omega
  have hz2 : ¬ (nw n = 0) := by omega
  have HCL := Lib.hid hclean
  clear hclean hvb hW hq K0
  generalize hm : nw n = m at *
  have d1 : decide ((n : Int) < 0) = false := decide_eq_false (by omega)
  have d2 : decide (65538 < (n : Int)) = false := decide_eq_false (by omega)
  have hmm : ((m : Int) != (m : Int)) = false := by simp
  clear hm
  go_enter Try.func36, Try.ntmps36
  go_wp2_with (first | fail)
  go_quiet ((first | (go_at_call 68; exact Calls.quiet_of_same (last_calls n _))))
  go_wp2
  go_ret
  refine Ret.of ?_ (HB.out.trans ⟨rfl, rfl, rfl, Nat.le_refl _, fun _ _ => rfl⟩)
  show Value.bool _ = _
  rw [HCL.out]
  rfl

theorem bit_get1 (v j : Nat) (hv : v < 18446744073709551616) : bits BinOp.and IntKind.u64 ((v : Int) / 2 ^ j) 1 = if v.testBit j then 1 else 0 := by
  have e : ((v : Int) / 2 ^ j) = ((v / 2 ^ j : Nat) : Int) := by simp
  have h2 : v / 2 ^ j < 18446744073709551616 := Nat.lt_of_le_of_lt (Nat.div_le_self _ _) hv
  rw [e, show (1 : Int) = ((1 : Nat) : Int) from rfl, u64_and_nat _ _ h2 (by omega), Nat.and_one_is_mod, Nat.testBit_eq_decide_div_mod_eq]
  by_cases h : v / 2 ^ j % 2 = 1
  · simp [h]
  · have : v / 2 ^ j % 2 = 0 := by omega
    simp [this]
set_option maxRecDepth 20000 in
set_option maxHeartbeats 4000000 in
theorem wGet_calls {g n i : Nat} {B : Nat → Bool} {w : World} (hn2 : n ≤ 65538) (hi : i < n) (hW : RowW g n B n w) :
    Calls Try.prog 37 #[.agg #[.int .i64 n, .slice (some ⟨g, 0, none⟩) (nw n) (nw n)], .int .i64 i] w (Ret (.bool (B i)) w) := by
  have K0 := bk_new w (.cells #[.int .i64 n, .slice (some ⟨g, 0, none⟩) (nw n) (nw n)] 68)
  have HB := Lib.hid (boxed w (.cells #[.int .i64 n, .slice (some ⟨g, 0, none⟩) (nw n) (nw n)] 68))
  have k0 := bk_cell K0
  have hW0 := Lib.hid (hW.below HB.out)
  have CV := Lib.hid (fun w' (h : RowW g n B n w') => wValid_calls (show 0 < n by omega) hn2 h)
  have hii : (i : Int) < (n : Int) := by omega
  have hnw : i / 64 < nw n := by unfold nw; omega
  have HK := Lib.hid K0
  clear hW K0
  go_enter Try.func37, Try.ntmps37
  go_wp2_with (first | (go_at_call 36; ((with_reducible refine (CV.out _ hW0.out).mono ?_); rintro e w1 ⟨rfl, hb1⟩; have k1 := bk_cell (bk_below HK.out hb1); obtain ⟨v, hv, hvc, hvb⟩ := (hW0.out.below hb1).word hnw; have HVB := Lib.hid (hvb (i % 64) (by omega)); have HV := Lib.hid hv; clear hvb hv)))
  go_ret
  refine Ret.of ?_ (next HB.out hb1)
  show Value.bool _ = _
  rw [bit_get1 v _ HV.out]
  have e := HVB.out
  rw [show 64 * (i / 64) + i % 64 = i by omega, decide_eq_true hi, Bool.true_and] at e
  rw [e]
  cases B i <;> rfl
end Go.Proofs.Ytkldffpdlkmncaa
