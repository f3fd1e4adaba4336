/- The document's rules of blocks, on: Back, Counts, Print. -/
import Derived.Test.YtdpcmpfhjhbicaaBkRr
set_option linter.unusedVariables false
set_option linter.unusedSimpArgs false
namespace Go.Proofs.Ytdpcmpfhjhbicaa
open Go.RowKit Go.Viv

set_option maxRecDepth 20000 in
set_option maxHeartbeats 4000000 in
theorem rBack_no {b : List Int} (hb : Arr16 b) (ht : turnsB b = false) (w : World) : Calls Try.prog 38 #[.agg (arr b)] w (Ret (.tuple #[.agg (arr (backL b)), .int .i64 (backE b)]) w) := by
  have KO := bk_alloc (bk_new w (.cells (arr b) 23)) (.cells (arr (List.replicate 16 0)) 23)
  have KR := bk_new (w.alloc (.cells (arr b) 23)) (.cells (arr (List.replicate 16 0)) 23)
  have hi := arr_info hb.len
  have hB := (boxed w (.cells (arr b) 23)).alloc (by simp) (.cells (arr (List.replicate 16 0)) 23)
  simp only [World.size_alloc] at KR
  have HC' := Lib.hid (rTurns_calls hb ((w.alloc (.cells (arr b) 23)).alloc (.cells (arr (List.replicate 16 0)) 23)))
  rw [← zero16] at KO KR hB HC'
  have HL : Hid (backL b = List.replicate 16 0) := by show _ = _; unfold backL; simp [ht]
  rw [ht] at HC'
  rcases checkB_two b with hc | hc
  all_goals
    have HE : ∀ v, backE b = v → Hid (backE b = v) := fun v h => h
    have HE := HE _ (show backE b = if checkB b ≠ 0 then 290 else 292 by unfold backE; rw [ht]; simp)
    rw [hc] at HC' HE
    simp only [ne_eq, not_true, if_false, show ¬ ((290 : Int) = 0) by omega, not_false_eq_true, if_true] at HE
    clear hc ht
    go_enter Try.func38, Try.ntmps38
    go_wp2_with (first | (go_at_call 37; ((with_reducible refine HC'.out.mono ?_); rintro e w1 ⟨rfl, hb1⟩; rw [zero16] at KR; have KR1 := bk_below KR hb1; have hB1 := hB.trans (hb1.mono hB.size))) | (refine wpList_load_row (by rfl) 23 _ (by rfl) w.heap.size (by rfl) 23 _ (0, 0) _ KO Try.underlying23 rfl hi ?_) | (refine wpList_store_row (by rfl) 23 _ _ (by rfl) (w.heap.size + 1) (arr (List.replicate 16 0)) (by rfl) (by rfl) 23 _ KR1 (arr_info rep16) (by rfl) (arr_one _) ?_))
    refine end_ct (w.heap.size + 1) 23 rfl rfl rfl Try.underlying23 rfl ⟨_, setRow_heap _ _ _ _ _ _ KR1, arr_info rep16, Ret.of (by rw [HE.out, HL.out]; rfl) ?_⟩
    exact below_setRow hB1 (by omega) _

set_option maxRecDepth 20000 in
set_option maxHeartbeats 4000000 in
theorem rBack_yes {b : List Int} (hb : Arr16 b) (ht : turnsB b = true) (w : World) : Calls Try.prog 38 #[.agg (arr b)] w (Ret (.tuple #[.agg (arr (backL b)), .int .i64 (backE b)]) w) := by
  have hc : checkB b = 0 := by unfold turnsB at ht; simp at ht; exact ht.1
  have KO := bk_alloc (bk_new w (.cells (arr b) 23)) (.cells (arr (List.replicate 16 0)) 23)
  have KR := bk_new (w.alloc (.cells (arr b) 23)) (.cells (arr (List.replicate 16 0)) 23)
  have hi := arr_info hb.len
  have hB := (boxed w (.cells (arr b) 23)).alloc (by simp) (.cells (arr (List.replicate 16 0)) 23)
  simp only [World.size_alloc] at KR
  have HC' := Lib.hid (rTurns_calls hb ((w.alloc (.cells (arr b) 23)).alloc (.cells (arr (List.replicate 16 0)) 23)))
  rw [← zero16] at KO KR hB HC'
  have HL : Hid (backL b = backF b 16) := by show _ = _; unfold backL; simp [ht]
  have HE : Hid (backE b = 0) := by show _ = _; unfold backE; simp [hc, ht]
  have hr := Lib.hid (ruleOk hb hc)
  rw [ht, hc] at HC'
  clear hc ht
  go_enter Try.func38, Try.ntmps38
  go_wp2_with (first | (go_at_call 37; ((with_reducible refine HC'.out.mono ?_); rintro e w1 ⟨rfl, hb1⟩; rw [zero16] at KR; have KR1 := Lib.hid (bk_below KR hb1); have KO1 := Lib.hid (bk_below KO hb1); have hB1 := Lib.hid (hB.trans (hb1.mono hB.size)))) | (refine wpList_load_row (by rfl) 23 _ (by rfl) w.heap.size (by rfl) 23 _ (0, 0) _ KO Try.underlying23 rfl hi ?_))
  rw [zero16]
  have K2 := Lib.hid (bk_alloc KO1.out (.cells (arr (List.replicate 16 0)) 23))
  have K3 := Lib.hid (bk_alloc KR1.out (.cells (arr (List.replicate 16 0)) 23))
  have K4 := Lib.hid (bk_new w1 (.cells (arr (List.replicate 16 0)) 23))
  have hB4 := Lib.hid (hB1.out.alloc hB1.out.size (.cells (arr (List.replicate 16 0)) 23))
  have hg : Hid (w.heap.size + 1 < w1.heap.size) := bk_lt KR1.out
  generalize w1.alloc (.cells (arr (List.replicate 16 0)) 23) = W0 at *
  generalize w1.heap.size = g at *
  clear KO KR hB hb1 hB1 hi KR1 KO1
  go_loopw [7] (fun i wr => ∃ k : Nat, i = .int .i64 k ∧ k ≤ 16 ∧ Hid (wr.heap[w.heap.size]? = some (.cells (arr b) 23 (0, 0))) ∧ Hid (wr.heap[w.heap.size + 1]? = some (.cells (arr (List.replicate 16 0)) 23 (0, 0))) ∧ Hid (wr.heap[g]? = some (.cells (arr (backF b k)) 23 (0, 0))) ∧ Below w.heap.size w wr) (fun i _ => 16 - (intOf i).toNat)
  case atStart => exact ⟨0, rfl, by omega, K2, K3, K4, hB4.out⟩
  clear K2 K3 K4 hB4
  obtain ⟨k, rfl, hk, H1, H2, H3, hB⟩ := hrel
  by_cases hlt : k < 16
  · have hbd := hr.out.bd k hlt
    obtain ⟨m, hm⟩ := Int.eq_ofNat_of_zero_le hbd.1
    have hm16 : m < 16 := by omega
    have hcb := arr_cell H1.out (k := k) (by rw [hb.len]; exact hlt)
    rw [hm] at hcb
    have hcr := arr_cell H3.out (k := m) (by rw [backF_length]; exact hm16)
    have hfr := bk_free H3.out m
    have R1 : Hid ((wr.setCell ⟨g, m, none⟩ (.int .u8 k)).heap[w.heap.size]? = some (.cells (arr b) 23 (0, 0))) := bk_far H1.out (by have := hg.out; simp; omega) _
    have R2 : Hid ((wr.setCell ⟨g, m, none⟩ (.int .u8 k)).heap[w.heap.size + 1]? = some (.cells (arr (List.replicate 16 0)) 23 (0, 0))) := bk_far H2.out (by have := hg.out; simp; omega) _
    have R3 : Hid ((wr.setCell ⟨g, m, none⟩ (.int .u8 k)).heap[g]? = some (.cells (arr (backF b (k + 1))) 23 (0, 0))) := by
      have := arr_bk H3.out m k
      rw [backF, show (nth b k).toNat = m by omega]; exact this
    have R4 := Lib.hid (hB.setCell (p := ⟨g, m, none⟩) (by have := hg.out; show w.heap.size ≤ g; omega) (.int .u8 (k : Int)))
    clear hbd hm H1 H2 H3 hB
    go_wp2
    go_roundw
    case rel => exact ⟨k + 1, by go_num, by omega, R1, R2, R3, R4.out⟩
    case measure => simp [intOf]; omega
  · obtain rfl : k = 16 := by omega
    go_wp2_with (first | (refine wpList_load_row (by rfl) 23 _ (by rfl) g (by rfl) 23 _ (0, 0) _ H3.out Try.underlying23 rfl (arr_info (backF_length b 16)) ?_) | (refine wpList_store_row (by rfl) 23 _ _ (by rfl) (w.heap.size + 1) _ (by rfl) (by rfl) 23 _ H2.out (arr_info (backF_length b 16)) (by rw [arr_size, arr_size, backF_length]; rfl) (arr_one _) ?_))
    refine end_ct (w.heap.size + 1) 23 rfl rfl rfl Try.underlying23 rfl ⟨_, setRow_heap _ _ _ _ _ _ H2.out, arr_info (backF_length b 16), Ret.of (by rw [HE.out, HL.out]; rfl) ?_⟩
    exact below_setRow hB (by omega) _
theorem rBack_calls {b : List Int} (hb : Arr16 b) (w : World) : Calls Try.prog 38 #[.agg (arr b)] w (Ret (.tuple #[.agg (arr (backL b)), .int .i64 (backE b)]) w) := by
  cases ht : turnsB b
  · exact rBack_no hb ht w
  · exact rBack_yes hb ht w

theorem ones_calls (n : Nat) (hn : n < 16) (w : World) : Calls Try.prog 64 #[.int .u8 n] w fun e w' => e = .returned (.int .u8 (onesN n)) ∧ w' = w := by
  have e : onesN n = (n : Int) % 2 + (n : Int) / 2 % 2 + (n : Int) / 4 % 2 + (n : Int) / 8 % 2 := rfl
  have E := Lib.hid e
  have hn' : (n : Int) < 16 := by omega
  clear e
  go_enter Try.func64, Try.ntmps64
  go_wp2
  go_ret
  exact ⟨by rw [E.out]; rfl, rfl⟩

set_option maxRecDepth 20000 in
set_option maxHeartbeats 4000000 in
theorem rCounts_bad {b : List Int} (hb : Arr16 b) (hc : checkB b = 290) (w : World) : Calls Try.prog 39 #[.agg (arr b)] w (Ret (.tuple #[.bool false, .int .i64 290]) w) := by
  have KO := bk_new w (.cells (arr b) 23)
  have hi := arr_info hb.len
  have hB := boxed w (.cells (arr b) 23)
  have HC := rCheck_calls hb (w.alloc (.cells (arr b) 23))
  rw [hc] at HC
  have HC' := Lib.hid HC; clear HC hc
  go_enter Try.func39, Try.ntmps39
  go_wp2_with (first | (go_at_call 40; ((with_reducible refine HC'.out.mono ?_); rintro e w1 ⟨rfl, hb1⟩)) | (refine wpList_load_row (by rfl) 23 _ (by rfl) w.heap.size (by rfl) 23 _ (0, 0) _ KO Try.underlying23 rfl hi ?_))
  go_ret2
  exact Ret.one (hB.trans (hb1.mono hB.size))

set_option maxRecDepth 20000 in
set_option maxHeartbeats 4000000 in
theorem rCounts_ok {b : List Int} (hb : Arr16 b) (hc : checkB b = 0) (w : World) : Calls Try.prog 39 #[.agg (arr b)] w (Ret (.tuple #[.bool (countsB b), .int .i64 0]) w) := by
  have KO := bk_new w (.cells (arr b) 23)
  have hi := arr_info hb.len
  have hB := boxed w (.cells (arr b) 23)
  have hr := Lib.hid (ruleOk hb hc)
  have HC := rCheck_calls hb (w.alloc (.cells (arr b) 23))
  have HZ := Lib.hid hc
  rw [hc] at HC
  have HC' := Lib.hid HC; clear HC hc
  go_enter Try.func39, Try.ntmps39
  go_wp2_with (first | (go_at_call 40; ((with_reducible refine HC'.out.mono ?_); rintro e w1 ⟨rfl, hb1⟩; have HK1 := Lib.hid (bk_below KO hb1); have HB1 := Lib.hid (hB.trans (hb1.mono hB.size)))) | (refine wpList_load_row (by rfl) 23 _ (by rfl) w.heap.size (by rfl) 23 _ (0, 0) _ KO Try.underlying23 rfl hi ?_))
  clear KO hB hb1 hi
  go_loopw [5] (fun i wr => ∃ k : Nat, i = .int .u8 k ∧ k ≤ 16 ∧ Hid (∀ j : Nat, j < k → onesN j = onesN (nth b j)) ∧ Hid (wr.heap[w.heap.size]? = some (.cells (arr b) 23 (0, 0))) ∧ Below w.heap.size w wr) (fun i _ => 16 - (intOf i).toNat)
  case atStart => exact ⟨0, rfl, by omega, fun _ h => absurd h (by omega), HK1.out, HB1.out⟩
  clear HK1 HB1
  obtain ⟨k, rfl, hk, HK, KW, hB⟩ := hrel
  by_cases hlt : k < 16
  · have hbd := hr.out.bd k hlt
    obtain ⟨m, hm⟩ := Int.eq_ofNat_of_zero_le hbd.1
    have hm16 : m < 16 := by omega
    have c1 := arr_cell KW.out (k := k) (by rw [hb.len]; exact hlt)
    rw [hm] at c1
    have C1 := Lib.hid (fun w => ones_calls k hlt w); have C2 := Lib.hid (fun w => ones_calls m hm16 w)
    have o1 := onesN_bd k; have o2 := onesN_bd m
    have k1 : (0 : Int) ≤ (k : Int) := by omega
    have k2 : (k : Int) < 16 := by omega
    by_cases he : onesN k = onesN m
    · have HK2 : Hid (∀ j : Nat, j < k + 1 → onesN j = onesN (nth b j)) := fun j hj => by
        by_cases e : j = k
        · subst e; rw [hm]; exact he
        · exact HK.out j (by omega)
      have hne : (onesN k != onesN m) = false := by simp [he]
      clear he hbd hm
      generalize onesN k = x at *
      generalize onesN m = y at *
      go_wp2_with (first | fail)
      go_quiet ((first | (go_at_call_of 64 (Value.int IntKind.u8 (k : Int)); exact Calls.quiet_of_same (C1.out _)) | (go_at_call_of 64 (Value.int IntKind.u8 (m : Int)); exact Calls.quiet_of_same (C2.out _))))
      go_wp2
      go_roundw
      case rel => exact ⟨k + 1, by go_num, by omega, HK2, bk_drewN KW.out _, hB.trans (bdrewN' _ _ hB.size)⟩
      case measure => simp [intOf]; omega
    · have hne : (onesN k != onesN m) = true := bne_iff_ne.2 he
      have HN := Lib.hid (countsB_no (b := b) hlt (by rw [hm]; exact he))
      clear he hbd hm
      generalize onesN k = x at *
      generalize onesN m = y at *
      go_wp2_with (first | fail)
      go_quiet ((first | (go_at_call_of 64 (Value.int IntKind.u8 (k : Int)); exact Calls.quiet_of_same (C1.out _)) | (go_at_call_of 64 (Value.int IntKind.u8 (m : Int)); exact Calls.quiet_of_same (C2.out _))))
      go_wp2
      go_ret2
      exact Ret.of (by rw [HN.out]; rfl) (hB.trans (bdrewN' _ _ hB.size))
  · have HN := Lib.hid (countsB_yes HZ.out fun j hj => HK.out j (by omega))
    go_wp2
    go_ret2
    exact Ret.of (by rw [HN.out]; rfl) hB
theorem rCounts_calls {b : List Int} (hb : Arr16 b) (w : World) : Calls Try.prog 39 #[.agg (arr b)] w (Ret (.tuple #[.bool (countsB b), .int .i64 (checkB b)]) w) := by
  rcases checkB_two b with hc | hc
  · rw [hc]; exact rCounts_ok hb hc w
  · rw [hc, show countsB b = false by unfold countsB; simp [hc]]; exact rCounts_bad hb hc w
end Go.Proofs.Ytdpcmpfhjhbicaa
