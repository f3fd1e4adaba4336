/- What is wrong with a grid, with generations, with a run. -/
import Derived.Test.YtdpcmpfhjhbicaaBkB
import Derived.Test.YtdpcmpfhjhbicaaMb
import Derived.Test.YtdpcmpfhjhbicaaFHas
import Derived.Test.YtdpcmpfhjhbicaaFNone
set_option linter.unusedVariables false
set_option linter.unusedSimpArgs false
namespace Go.Proofs.Ytdpcmpfhjhbicaa
open Go.RowKit Go.Viv

def gridE (k W H t s : Int) : Int := if checkE k W H t s ≠ 0 then 9 else if k ≠ 1 ∧ k ≠ 2 then 40 else if W = 0 ∨ H = 0 then 42 else if W % 2 ≠ 0 ∨ H % 2 ≠ 0 ∨ s % 2 ≠ 0 then 291 else 0
structure GridOk (k W H t s : Int) : Prop where
  ok : checkE k W H t s = 0
  k1 : k = 1 ∨ k = 2
  w0 : W ≠ 0
  h0 : H ≠ 0
  w2 : W % 2 = 0
  h2 : H % 2 = 0
  s2 : s % 2 = 0
theorem gridOk_of {k W H t s : Int} (h : gridE k W H t s = 0) : GridOk k W H t s := by
  unfold gridE at h
  split at h
  · omega
  split at h
  · omega
  split at h
  · omega
  split at h
  · omega
  · constructor <;> omega

theorem tmod2 (s : Int) : (s.tmod 2 != 0) = (s % 2 != 0) := by
  by_cases h : s % 2 = 0
  · have : s.tmod 2 = 0 := Int.tmod_eq_zero_of_dvd (Int.dvd_of_emod_eq_zero h)
    simp [h, this]
  · have : s.tmod 2 ≠ 0 := fun e => h (Int.emod_eq_zero_of_dvd (Int.dvd_of_tmod_eq_zero e))
    rw [bne_iff_ne.2 h, bne_iff_ne.2 this]

theorem tmod2e (s : Int) : (s.tmod 2 = 0) = (s % 2 = 0) := by
  have := tmod2 s
  simp only [bne, Bool.not_eq_eq_eq_not, Bool.not_not] at this
  apply propext
  constructor
  · intro h; have h2 : (s.tmod 2 == 0) = true := by simp [h]
    rw [this] at h2; simpa using h2
  · intro h; have h2 : (s % 2 == 0) = true := by simp [h]
    rw [← this] at h2; simpa using h2
set_option maxRecDepth 20000 in
set_option maxHeartbeats 4000000 in
theorem grid_calls (k W H t s : Int) (w : World) (t0 : 0 ≤ t) : Calls Try.prog 65 #[topoV k W H t s] w (Ret (.int .i64 (gridE k W H t s)) w) := by
  have KT := bk_new w (.cells #[.int .u8 k, .int .i64 W, .int .i64 H, .int .u8 t, .int .i64 s] 29)
  have hcT := bk_cell KT
  have hB := boxed w (.cells #[.int .u8 k, .int .i64 W, .int .i64 H, .int .u8 t, .int .i64 s] 29)
  have CC := Lib.hid (Check_calls k W H t s (w.alloc (.cells #[.int .u8 k, .int .i64 W, .int .i64 H, .int .u8 t, .int .i64 s] 29)) t0)
  by_cases hc : checkE k W H t s = 0
  · have ok := topoOk_of t0 hc
    have k1 := ok.k1; have k5 := ok.k5; have w0 := ok.w0; have w1 := ok.w1; have h0 := ok.h0; have h1 := ok.h1
    have sh := ok.sh
    have hc0 : (checkE k W H t s != 0) = false := by simp [hc]
    have HC := Lib.hid hc
    clear hc ok
    go_enter Try.func65, Try.ntmps65
    go_wp2_with (go_at_call 74; ((with_reducible refine CC.out.mono ?_); rintro e w1 ⟨rfl, hb1⟩; have hc1 := bk_cell (bk_below KT hb1)))
    all_goals
      go_ret
      refine Ret.of ?_ (hB.trans (hb1.mono hB.size))
      have hc := HC.out
      simp only [tmod2e, beq_iff_eq, beq_eq_false_iff_ne, ne_eq, bne_iff_ne, bne_eq_false_iff_eq, Bool.and_eq_true, Bool.or_eq_true, Bool.not_eq_true', Bool.not_eq_false', decide_eq_true_eq, decide_eq_false_iff_not, Bool.and_eq_false_iff, Bool.or_eq_false_iff] at *
      show Value.int .i64 _ = _
      congr 1
      unfold gridE
      (repeat' split) <;> omega
  · have hc0 : (checkE k W H t s != 0) = true := bne_iff_ne.2 hc
    have HE : Hid (gridE k W H t s = 9) := by show _ = _; unfold gridE; rw [if_pos hc]
    clear hc
    go_enter Try.func65, Try.ntmps65
    go_wp2_with (go_at_call 74; ((with_reducible refine CC.out.mono ?_); rintro e w1 ⟨rfl, hb1⟩))
    go_ret
    exact Ret.of (by rw [HE.out]; rfl) (hB.trans (hb1.mono hB.size))

/-- generations -/
def spanE (gen n : Int) : Int := if gen + n < 0 then 2 else if 1125899906842624 < gen + n then 5 else 0
set_option maxRecDepth 20000 in
set_option maxHeartbeats 4000000 in
theorem Add_small (a b : Int) (w : World) (h0 : 0 ≤ a) (h1 : a ≤ 1125899906842624) (h2 : -9223372036854775808 ≤ b) (h3 : a + b ≤ 9223372036854775807) : Calls Try.prog 75 #[.int .i64 a, .int .i64 b] w fun e w' => e = .returned (.tuple #[.int .i64 (a + b), .bool true]) ∧ w = w' := by
  by_cases hb : 0 ≤ b
  · have d1 : decide (a + b < a) = false := decide_eq_false (by omega)
    have d2 : decide (b < 0) = false := decide_eq_false (by omega)
    go_enter Try.func75, Try.ntmps75
    go_wp2
    go_ret2
    exact ⟨rfl, rfl⟩
  · have d1 : decide (a < a + b) = false := decide_eq_false (by omega)
    have d2 : decide (b < 0) = true := decide_eq_true (by omega)
    have d3 : decide (0 ≤ b) = false := decide_eq_false (by omega)
    go_enter Try.func75, Try.ntmps75
    go_wp2
    go_ret2
    exact ⟨rfl, rfl⟩
set_option maxRecDepth 20000 in
set_option maxHeartbeats 4000000 in
theorem Add_large (a b : Int) (w : World) (h0 : 0 ≤ a) (h1 : a ≤ 1125899906842624) (h2 : b ≤ 9223372036854775807) (h3 : 9223372036854775807 < a + b) : Calls Try.prog 75 #[.int .i64 a, .int .i64 b] w fun e w' => e = .returned (.tuple #[.int .i64 0, .bool false]) ∧ w = w' := by
  have e : wrap64 (a + b) = a + b - 18446744073709551616 := by unfold wrap64; omega
  have d1 : decide (a + b - 18446744073709551616 < a) = true := decide_eq_true (by omega)
  have d2 : decide (0 ≤ b) = true := decide_eq_true (by omega)
  clear h3
  go_enter Try.func75, Try.ntmps75
  go_wp2
  all_goals
    go_ret2
    exact ⟨rfl, rfl⟩
set_option maxRecDepth 20000 in
set_option maxHeartbeats 4000000 in
theorem span_calls (a b : Int) (w : World) (h0 : 0 ≤ a) (h1 : a ≤ 1125899906842624) (h2 : -9223372036854775808 ≤ b) (h3 : b ≤ 9223372036854775807) : Calls Try.prog 66 #[.int .i64 a, .int .i64 b] w fun e w' => e = .returned (.int .i64 (spanE a b)) ∧ w = w' := by
  by_cases hs : a + b ≤ 9223372036854775807
  · have C := Lib.hid (Add_small a b w h0 h1 h2 hs)
    have HE : ∀ z, a + b = z → Hid (spanE a b = if z < 0 then 2 else if 1125899906842624 < z then 5 else 0) := fun z e => by rw [← e]; rfl
    generalize a + b = z at *
    have HE := HE z rfl
    go_enter Try.func66, Try.ntmps66
    go_wp2_with (go_at_call 75; ((with_reducible refine C.out.mono ?_); rintro e w' ⟨rfl, rfl⟩))
    all_goals
      go_ret
      refine ⟨?_, rfl⟩
      rw [HE.out]
      clear HE C
      simp only [beq_iff_eq, beq_eq_false_iff_ne, ne_eq, bne_iff_ne, bne_eq_false_iff_eq, Bool.and_eq_true, Bool.or_eq_true, Bool.not_eq_true', Bool.not_eq_false', decide_eq_true_eq, decide_eq_false_iff_not, Bool.and_eq_false_iff, Bool.or_eq_false_iff] at *
      show Ending.returned (Value.int .i64 _) = _
      congr 2
      (repeat' split) <;> omega
  · have C := Lib.hid (Add_large a b w h0 h1 h3 (by omega))
    have HE : Hid (spanE a b = 5) := by show _ = _; unfold spanE; rw [if_neg (by omega), if_pos (by omega)]
    have hb : decide (b < 0) = false := decide_eq_false (by omega)
    clear hs
    go_enter Try.func66, Try.ntmps66
    go_wp2_with (go_at_call 75; ((with_reducible refine C.out.mono ?_); rintro e w' ⟨rfl, rfl⟩))
    go_ret
    exact ⟨by rw [HE.out]; rfl, rfl⟩
end Go.Proofs.Ytdpcmpfhjhbicaa
