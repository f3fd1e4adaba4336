/- Counts. -/
import Derived.Test.YtdpcmpfhjhbicaaBkA
set_option linter.unusedVariables false
set_option linter.unusedSimpArgs false
namespace Go.Proofs.Ytdpcmpfhjhbicaa
open Go.RowKit Go.Viv

/-- how many places of a block live -/
def onesN (n : Int) : Int := n % 2 + n / 2 % 2 + n / 4 % 2 + n / 8 % 2
theorem sixteen {n : Nat} (h : n < 16) : n = 0 ∨ n = 1 ∨ n = 2 ∨ n = 3 ∨ n = 4 ∨ n = 5 ∨ n = 6 ∨ n = 7 ∨ n = 8 ∨ n = 9 ∨ n = 10 ∨ n = 11 ∨ n = 12 ∨ n = 13 ∨ n = 14 ∨ n = 15 := by omega

set_option maxRecDepth 20000 in
set_option maxHeartbeats 4000000 in
theorem oc64 (n : Nat) (hn : n < 16) (w : World) : Calls Try.prog 73 #[.int .u64 n] w fun e w' => e = .returned (.int .i64 (onesN n)) ∧ w = w' := by
  rcases sixteen hn with rfl | rfl | rfl | rfl | rfl | rfl | rfl | rfl | rfl | rfl | rfl | rfl | rfl | rfl | rfl | rfl
  all_goals
    clear hn
    go_enter Try.func73, Try.ntmps73
    go_wp2
    go_ret
    exact ⟨by kernel_rfl, rfl⟩
set_option maxRecDepth 20000 in
set_option maxHeartbeats 4000000 in
theorem oc8 (n : Nat) (hn : n < 16) (w : World) : Calls Try.prog 63 #[.int .u8 n] w fun e w' => e = .returned (.int .i64 (onesN n)) ∧ w = w' := by
  rcases sixteen hn with rfl | rfl | rfl | rfl | rfl | rfl | rfl | rfl | rfl | rfl | rfl | rfl | rfl | rfl | rfl | rfl
  all_goals
    clear hn
    go_enter Try.func63, Try.ntmps63
    go_wp2
    go_ret
    exact ⟨by kernel_rfl, rfl⟩
theorem oc (n : Nat) (hn : n < 16) (w : World) : Calls Try.prog 62 #[.int .u64 n] w fun e w' => e = .returned (.int .i64 (onesN n)) ∧ w = w' := by
  have h := Lib.hid (oc64 n hn w)
  go_enter Try.func62, Try.ntmps62
  go_wp2_with (go_at_call 73; ((with_reducible refine h.out.mono ?_); rintro e w' ⟨rfl, rfl⟩))
  go_ret
  exact ⟨by kernel_rfl, rfl⟩
/-- block.Counts -/
def countsB (b : List Int) : Bool := decide (checkB b = 0) && (List.range 16).all fun k => onesN k == onesN (nth b k)
theorem countsB_no {b : List Int} {k : Nat} (hk : k < 16) (h : onesN k ≠ onesN (nth b k)) : countsB b = false := by
  unfold countsB
  have : ((List.range 16).all fun k => onesN k == onesN (nth b k)) = false := by
    rw [Bool.eq_false_iff]
    intro hh
    rw [List.all_eq_true] at hh
    have := hh k (List.mem_range.2 hk)
    simp at this; exact h this
  rw [this, Bool.and_false]
theorem countsB_yes {b : List Int} (hc : checkB b = 0) (h : ∀ k : Nat, k < 16 → onesN k = onesN (nth b k)) : countsB b = true := by
  unfold countsB
  rw [hc, List.all_eq_true.2 fun k hk => by simp [h k (List.mem_range.1 hk)]]; rfl
theorem onesN_bd (n : Int) : 0 ≤ onesN n ∧ onesN n ≤ 4 := by unfold onesN; omega

set_option maxRecDepth 20000 in
set_option maxHeartbeats 4000000 in
theorem Counts_bad {b : List Int} (hb : Arr16 b) (hc : checkB b = 290) (w : World) : Calls Try.prog 34 #[.agg (arr b)] w (Ret (.tuple #[.bool false, .int .i64 290]) w) := by
  have KO := bk_new w (.cells (arr b) 23)
  have hi := arr_info hb.len
  have hB := boxed w (.cells (arr b) 23)
  have HC := bCheck_calls hb (w.alloc (.cells (arr b) 23))
  rw [hc] at HC
  have HC' := Lib.hid HC; clear HC hc
  go_enter Try.func34, Try.ntmps34
  go_wp2_with (first | (go_at_call 17; ((with_reducible refine HC'.out.mono ?_); rintro e w1 ⟨rfl, hb1⟩)) | (refine wpList_load_row (by rfl) 23 _ (by rfl) w.heap.size (by rfl) 23 _ (0, 0) _ KO Try.underlying23 rfl hi ?_))
  go_ret2
  exact Ret.one (hB.trans (hb1.mono hB.size))

set_option maxRecDepth 20000 in
set_option maxHeartbeats 4000000 in
theorem Counts_ok {b : List Int} (hb : Arr16 b) (hc : checkB b = 0) (w : World) : Calls Try.prog 34 #[.agg (arr b)] w (Ret (.tuple #[.bool (countsB b), .int .i64 0]) w) := by
  have KO := bk_new w (.cells (arr b) 23)
  have hi := arr_info hb.len
  have hB := boxed w (.cells (arr b) 23)
  have hr := ruleOk hb hc
  have HC := bCheck_calls hb (w.alloc (.cells (arr b) 23))
  have HZ := Lib.hid hc
  rw [hc] at HC
  have HC' := Lib.hid HC; clear HC hc
  go_enter Try.func34, Try.ntmps34
  go_wp2_with (first | (go_at_call 17; ((with_reducible refine HC'.out.mono ?_); rintro e w1 ⟨rfl, hb1⟩; have KO1 := bk_below KO hb1; have hB1 := hB.trans (hb1.mono hB.size))) | (refine wpList_load_row (by rfl) 23 _ (by rfl) w.heap.size (by rfl) 23 _ (0, 0) _ KO Try.underlying23 rfl hi ?_) | (refine wpList_load_row (by rfl) 23 _ (by rfl) w.heap.size (by rfl) 23 _ (0, 0) _ KO1 Try.underlying23 rfl hi ?_))
  clear KO KO1 hi hB hb1
  go_loop [13] (fun i => ∃ k : Nat, i = .int .i64 k ∧ k ≤ 16 ∧ Hid (∀ j : Nat, j < k → onesN j = onesN (nth b j))) (fun i => 16 - (intOf i).toNat)
  case atStart => exact ⟨0, rfl, by omega, fun _ h => absurd h (by omega)⟩
  case round =>
    obtain ⟨k, rfl, hk, HK⟩ := hrel
    by_cases hlt : k < 16
    · have hix := fun w => arr_index hb.len k hlt .i64 w
      have hbd := hr.bd k hlt
      obtain ⟨m, hm⟩ := Int.eq_ofNat_of_zero_le hbd.1
      have hm16 : m < 16 := by omega
      have C1 := Lib.hid (oc k hlt w1); have C2 := Lib.hid (oc8 m hm16 w1)
      have o1 := onesN_bd k; have o2 := onesN_bd m
      simp only [hm] at hix
      by_cases he : onesN k = onesN m
      · have HK2 : Hid (∀ j : Nat, j < k + 1 → onesN j = onesN (nth b j)) := fun j hj => by
          by_cases e : j = k
          · subst e; rw [hm]; exact he
          · exact HK.out j (by omega)
        have hne : (onesN k != onesN m) = false := by simp [he]
        clear he hbd hm
        generalize onesN k = x at *
        generalize onesN m = y at *
        go_wp2_with (first | (go_at_call 62; ((with_reducible refine C1.out.mono ?_); rintro e w' ⟨rfl, rfl⟩)) | (go_at_call 63; ((with_reducible refine C2.out.mono ?_); rintro e w' ⟨rfl, rfl⟩)))
        go_round
        case rel => exact ⟨k + 1, by go_num, by omega, HK2⟩
        case measure => simp [intOf]; omega
      · have hne : (onesN k != onesN m) = true := bne_iff_ne.2 he
        have HN := Lib.hid (countsB_no (b := b) hlt (by rw [hm]; exact he))
        clear he hbd hm
        generalize onesN k = x at *
        generalize onesN m = y at *
        go_wp2_with (first | (go_at_call 62; ((with_reducible refine C1.out.mono ?_); rintro e w' ⟨rfl, rfl⟩)) | (go_at_call 63; ((with_reducible refine C2.out.mono ?_); rintro e w' ⟨rfl, rfl⟩)))
        go_ret2
        exact Ret.of (by rw [HN.out]; rfl) hB1
    · have HN := Lib.hid (countsB_yes HZ.out fun j hj => HK.out j (by omega))
      go_wp2
      go_ret2
      exact Ret.of (by rw [HN.out]; rfl) hB1
theorem Counts_calls {b : List Int} (hb : Arr16 b) (w : World) : Calls Try.prog 34 #[.agg (arr b)] w (Ret (.tuple #[.bool (countsB b), .int .i64 (checkB b)]) w) := by
  rcases checkB_two b with hc | hc
  · rw [hc]; exact Counts_ok hb hc w
  · rw [hc, show countsB b = false by unfold countsB; simp [hc]]; exact Counts_bad hb hc w
end Go.Proofs.Ytdpcmpfhjhbicaa
