/- Turns, Back. -/
import Derived.Test.YtdpcmpfhjhbicaaBkA
set_option linter.unusedVariables false
set_option linter.unusedSimpArgs false
namespace Go.Proofs.Ytdpcmpfhjhbicaa
open Go.RowKit Go.Viv

set_option maxRecDepth 20000 in
set_option maxHeartbeats 2000000 in
theorem Turns_bad {b : List Int} (hb : Arr16 b) (hc : checkB b = 290) (w : World) : Calls Try.prog 22 #[.agg (arr b)] w (Ret (.tuple #[.bool false, .int .i64 290]) w) := by
  have KO := bk_new w (.cells (arr b) 23)
  have hi := arr_info hb.len
  have hB := boxed w (.cells (arr b) 23)
  have HC := bCheck_calls hb (w.alloc (.cells (arr b) 23))
  rw [hc] at HC
  have HC' := Lib.hid HC; clear HC hc
  go_enter Try.func22, Try.ntmps22
  go_wp2_with (first | (go_at_call 17; ((with_reducible refine HC'.out.mono ?_); rintro e w1 ⟨rfl, hb1⟩)) | (refine wpList_load_row (by rfl) 23 _ (by rfl) w.heap.size (by rfl) 23 _ (0, 0) _ KO Try.underlying23 rfl hi ?_))
  go_ret2
  exact Ret.one (hB.trans (hb1.mono hB.size))

set_option maxRecDepth 20000 in
set_option maxHeartbeats 4000000 in
theorem Turns_ok {b : List Int} (hb : Arr16 b) (hc : checkB b = 0) (w : World) : Calls Try.prog 22 #[.agg (arr b)] w (Ret (.tuple #[.bool (turnsB b), .int .i64 0]) w) := by
  have KO := bk_new w (.cells (arr b) 23)
  have hi := arr_info hb.len
  have hB := boxed w (.cells (arr b) 23)
  have hr := ruleOk hb hc
  have HT : Hid (turnsB b = decide (seenF b 16 = onceF 16)) := by show turnsB b = _; unfold turnsB; simp [hc]
  have HC := bCheck_calls hb (w.alloc (.cells (arr b) 23))
  rw [hc] at HC
  have HC' := Lib.hid HC; clear HC hc
  go_enter Try.func22, Try.ntmps22
  go_wp2_with (first | (go_at_call 17; ((with_reducible refine HC'.out.mono ?_); rintro e w1 ⟨rfl, hb1⟩; have KO1 := bk_below KO hb1; have hB1 := hB.trans (hb1.mono hB.size))) | (refine wpList_load_row (by rfl) 23 _ (by rfl) w.heap.size (by rfl) 23 _ (0, 0) _ KO Try.underlying23 rfl hi ?_) | (refine wpList_load_row (by rfl) 23 _ (by rfl) w.heap.size (by rfl) 23 _ (0, 0) _ (bk_alloc (bk_alloc KO1 _) _) Try.underlying23 rfl hi ?_))
  rw [zero16]
  have K2 := bk_alloc (bk_new w1 (.cells (arr (List.replicate 16 0)) 23)) (.cells (arr (List.replicate 16 0)) 23)
  have K3 := bk_new (w1.alloc (.cells (arr (List.replicate 16 0)) 23)) (.cells (arr (List.replicate 16 0)) 23)
  have hs := hB1.size
  have hB3 := (hB1.alloc hs (.cells (arr (List.replicate 16 0)) 23)).alloc (by simp; omega) (.cells (arr (List.replicate 16 0)) 23)
  simp only [World.size_alloc] at K3
  generalize ((w1.alloc (.cells (arr (List.replicate 16 0)) 23)).alloc (.cells (arr (List.replicate 16 0)) 23)) = W0 at *
  generalize hg : w1.heap.size = g at *
  clear KO hi hB1 hb1 hB KO1 hg
  have HK2 := Lib.hid K2; have HK3 := Lib.hid K3; have HB3 := Lib.hid hB3; clear K2 K3 hB3
  go_loopw [15] (fun i wr => ∃ k : Nat, i = .int .i64 k ∧ k ≤ 16 ∧ Hid (wr.heap[g]? = some (.cells (arr (seenF b k)) 23 (0, 0))) ∧ Hid (wr.heap[g + 1]? = some (.cells (arr (onceF k)) 23 (0, 0))) ∧ Below w.heap.size w wr) (fun i _ => 16 - (intOf i).toNat)
  case atStart => exact ⟨0, rfl, by omega, HK2.out, HK3.out, HB3.out⟩
  clear HK2 HK3 HB3
  obtain ⟨k, rfl, hk, H2, H3, hB⟩ := hrel
  by_cases hlt : k < 16
  · have hix := fun w => arr_index hb.len k hlt .i64 w
    have hbd := hr.bd k hlt
    obtain ⟨m, hm⟩ := Int.eq_ofNat_of_zero_le hbd.1
    have hm16 : m < 16 := by omega
    have hco := bk_cell H2.out m
    rw [arr_at (by rw [seenF_length]; omega)] at hco
    have hfo := bk_free H2.out m
    have hsb := seenF_bd b k m hm16
    have hS : Hid (nth (seenF b k) m + 1 = nth (seenF b k) (nth b k).toNat + 1) := by show _ = _; rw [show (nth b k).toNat = m by omega]
    generalize hz : nth (seenF b k) m = z at *
    have K2' : Hid ((wr.setCell ⟨g, m, none⟩ (.int .u8 (z + 1))).heap[g]? = some (.cells (arr (seenF b (k + 1))) 23 (0, 0))) := by
      have := arr_bk H2.out m (z + 1)
      rw [seenF, ← hS.out, show (nth b k).toNat = m by omega]; exact this
    have K3' := bk_far H3.out (p := ⟨g, m, none⟩) (by simp) (.int .u8 (z + 1))
    have hc3 := bk_cell K3' k
    rw [arr_at (by rw [onceF_length]; omega)] at hc3
    have hf3 := bk_free K3' k
    have hR2 : Hid (((wr.setCell ⟨g, m, none⟩ (.int .u8 (z + 1))).setCell ⟨g + 1, k, none⟩ (.int .u8 1)).heap[g]? = some (.cells (arr (seenF b (k + 1))) 23 (0, 0))) := bk_far K2'.out (by simp) _
    have hR3 : Hid (((wr.setCell ⟨g, m, none⟩ (.int .u8 (z + 1))).setCell ⟨g + 1, k, none⟩ (.int .u8 1)).heap[g + 1]? = some (.cells (arr (onceF (k + 1))) 23 (0, 0))) := arr_bk K3' k 1
    have hB2 := (hB.setCell (p := ⟨g, m, none⟩) (by show w.heap.size ≤ g; omega) (.int .u8 (z + 1))).setCell (p := ⟨g + 1, k, none⟩) (by show w.heap.size ≤ g + 1; omega) (.int .u8 1)
    have HR := Lib.hid hB2
    simp only [hm] at hix
    clear hbd hm H2 H3 hz hS K2' K3' hB2 hB
    go_wp2
    go_roundw
    case rel => exact ⟨k + 1, by go_num, by omega, hR2, hR3, HR.out⟩
    case measure => simp [intOf]; omega
  · obtain rfl : k = 16 := by omega
    have heq := fun w => arr_eql (seenF_length b 16) (onceF_length 16) w
    go_wp2_with (first | (refine wpList_load_row (by rfl) 23 _ (by rfl) g (by rfl) 23 _ (0, 0) _ H2.out Try.underlying23 rfl (arr_info (seenF_length b 16)) ?_) | (refine wpList_load_row (by rfl) 23 _ (by rfl) (g + 1) (by rfl) 23 _ (0, 0) _ H3.out Try.underlying23 rfl (arr_info (onceF_length 16)) ?_))
    go_ret2
    exact Ret.of (by rw [HT.out]; rfl) hB
theorem Turns_calls {b : List Int} (hb : Arr16 b) (w : World) : Calls Try.prog 22 #[.agg (arr b)] w (Ret (.tuple #[.bool (turnsB b), .int .i64 (checkB b)]) w) := by
  rcases checkB_two b with hc | hc
  · rw [hc]; exact Turns_ok hb hc w
  · rw [hc, show turnsB b = false by unfold turnsB; simp [hc]]; exact Turns_bad hb hc w

theorem rep16 : (List.replicate 16 (0 : Int)).length = 16 := rfl

/-- block.Back: the rule, and the error -/
def backL (b : List Int) : List Int := if turnsB b then backF b 16 else List.replicate 16 0
def backE (b : List Int) : Int := if checkB b ≠ 0 then 290 else if turnsB b then 0 else 292
theorem backL_length (b : List Int) : (backL b).length = 16 := by unfold backL; split; exact backF_length b 16; rfl

set_option maxRecDepth 20000 in
set_option maxHeartbeats 4000000 in
theorem Back_calls {b : List Int} (hb : Arr16 b) (w : World) : Calls Try.prog 23 #[.agg (arr b)] w (Ret (.tuple #[.agg (arr (backL b)), .int .i64 (backE b)]) w) := by
  have KO := bk_alloc (bk_new w (.cells (arr b) 23)) (.cells (arr (List.replicate 16 0)) 23)
  have KR := bk_new (w.alloc (.cells (arr b) 23)) (.cells (arr (List.replicate 16 0)) 23)
  have hi := arr_info hb.len
  have hB := (boxed w (.cells (arr b) 23)).alloc (by simp) (.cells (arr (List.replicate 16 0)) 23)
  simp only [World.size_alloc] at KR
  have HC := Turns_calls hb ((w.alloc (.cells (arr b) 23)).alloc (.cells (arr (List.replicate 16 0)) 23))
  have HC' := Lib.hid HC; clear HC
  rw [← zero16] at KO KR hB HC'
  rcases checkB_two b with hc | hc
  · cases ht : turnsB b
    · have HE : Hid (backE b = 292) := by show _ = _; unfold backE; simp [hc, ht]
      have HL : Hid (backL b = List.replicate 16 0) := by show _ = _; unfold backL; simp [ht]
      rw [hc, ht] at HC'
      clear hc ht
      go_enter Try.func23, Try.ntmps23
      go_wp2_with (first | (go_at_call 22; ((with_reducible refine HC'.out.mono ?_); rintro e w1 ⟨rfl, hb1⟩; rw [zero16] at KR; have KR1 := bk_below KR hb1; have hB1 := hB.trans (hb1.mono hB.size))) | (refine wpList_load_row (by rfl) 23 _ (by rfl) w.heap.size (by rfl) 23 _ (0, 0) _ KO Try.underlying23 rfl hi ?_) | (refine wpList_store_row (by rfl) 23 _ _ (by rfl) (w.heap.size + 1) (arr (List.replicate 16 0)) (by rfl) (by rfl) 23 _ KR1 (arr_info rep16) (by rfl) (arr_one _) ?_))
      refine end_ct (w.heap.size + 1) 23 rfl rfl rfl Try.underlying23 rfl ⟨_, setRow_heap _ _ _ _ _ _ KR1, arr_info rep16, Ret.of (by rw [HE.out, HL.out]; rfl) ?_⟩
      exact below_setRow hB1 (by omega) _
    · have HE : Hid (backE b = 0) := by show _ = _; unfold backE; simp [hc, ht]
      have HL : Hid (backL b = backF b 16) := by show _ = _; unfold backL; simp [ht]
      have hr := Lib.hid (ruleOk hb hc)
      rw [hc, ht] at HC'
      clear hc ht
      go_enter Try.func23, Try.ntmps23
      go_wp2_with (first | (go_at_call 22; ((with_reducible refine HC'.out.mono ?_); rintro e w1 ⟨rfl, hb1⟩; rw [zero16] at KR; have KR1 := bk_below KR hb1; have KO1 := bk_below KO hb1; have hB1 := hB.trans (hb1.mono hB.size))) | (refine wpList_load_row (by rfl) 23 _ (by rfl) w.heap.size (by rfl) 23 _ (0, 0) _ KO Try.underlying23 rfl hi ?_) | (refine wpList_load_row (by rfl) 23 _ (by rfl) w.heap.size (by rfl) 23 _ (0, 0) _ KO1 Try.underlying23 rfl hi ?_) | (go_at_call 47; ((with_reducible refine (back_calls hr.out w1).mono ?_); rintro e w2 ⟨rfl, hb2⟩; have KR2 := bk_below KR1 hb2; have hB2 := hB1.trans (hb2.mono hB1.size))) | (refine wpList_store_row (by rfl) 23 _ _ (by rfl) (w.heap.size + 1) (arr (backF b 16)) (by rfl) (by rfl) 23 _ KR2 (arr_info (backF_length b 16)) (by rw [arr_size, arr_size, backF_length]; rfl) (arr_one _) ?_))
      refine end_ct (w.heap.size + 1) 23 rfl rfl rfl Try.underlying23 rfl ⟨_, setRow_heap _ _ _ _ _ _ KR2, arr_info (backF_length b 16), Ret.of (by rw [HE.out, HL.out]; rfl) ?_⟩
      exact below_setRow hB2 (by omega) _
  · have ht : turnsB b = false := by unfold turnsB; simp [hc]
    have HE : Hid (backE b = 290) := by show _ = _; unfold backE; simp [hc]
    have HL : Hid (backL b = List.replicate 16 0) := by show _ = _; unfold backL; simp [ht]
    rw [hc, ht] at HC'
    clear hc ht
    go_enter Try.func23, Try.ntmps23
    go_wp2_with (first | (go_at_call 22; ((with_reducible refine HC'.out.mono ?_); rintro e w1 ⟨rfl, hb1⟩; rw [zero16] at KR; have KR1 := bk_below KR hb1; have hB1 := hB.trans (hb1.mono hB.size))) | (refine wpList_load_row (by rfl) 23 _ (by rfl) w.heap.size (by rfl) 23 _ (0, 0) _ KO Try.underlying23 rfl hi ?_) | (refine wpList_store_row (by rfl) 23 _ _ (by rfl) (w.heap.size + 1) (arr (List.replicate 16 0)) (by rfl) (by rfl) 23 _ KR1 (arr_info rep16) (by rfl) (arr_one _) ?_))
    refine end_ct (w.heap.size + 1) 23 rfl rfl rfl Try.underlying23 rfl ⟨_, setRow_heap _ _ _ _ _ _ KR1, arr_info rep16, Ret.of (by rw [HE.out, HL.out]; rfl) ?_⟩
    exact below_setRow hB1 (by omega) _
end Go.Proofs.Ytdpcmpfhjhbicaa
