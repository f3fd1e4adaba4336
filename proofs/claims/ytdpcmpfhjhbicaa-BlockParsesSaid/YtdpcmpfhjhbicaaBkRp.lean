/- The document's Parse. BlockParses. -/
import Derived.Test.YtdpcmpfhjhbicaaBkN
set_option linter.unusedVariables false
set_option linter.unusedSimpArgs false
namespace Go.Proofs.Ytdpcmpfhjhbicaa
open Go.RowKit Go.Viv

set_option maxRecDepth 20000 in
set_option maxHeartbeats 2000000 in
theorem digit_calls (c : Int) (h0 : 0 ≤ c) (h1 : c ≤ 255) (w : World) : Calls Try.prog 43 #[.int .u8 c] w fun e w' => e = .returned (.int .i64 (digI c)) ∧ w = w' := by
  have HD : ∀ u, digI c = u → Hid (digI c = u) := fun u h => h
  by_cases d1 : 48 ≤ c ∧ c ≤ 57
  · have H := HD (c - 48) (by unfold digI; rw [if_pos d1])
    obtain ⟨a, b⟩ := d1
    clear HD
    go_enter Try.func43, Try.ntmps43
    go_wp2
    go_ret
    exact ⟨by rw [H.out]; rfl, rfl⟩
  · have D1 : decide (48 ≤ c) = false ∨ (decide (48 ≤ c) = true ∧ decide (c ≤ 57) = false) := by
      by_cases h : 48 ≤ c
      · exact .inr ⟨decide_eq_true h, decide_eq_false (by omega)⟩
      · exact .inl (decide_eq_false h)
    by_cases d2 : 65 ≤ c ∧ c ≤ 70
    · have H := HD (c - 55) (by unfold digI; rw [if_neg d1, if_pos d2])
      obtain ⟨a, b⟩ := d2
      have e1 : c - 65 + 10 = c - 55 := by omega
      have E1 := Lib.hid e1
      clear HD d1 e1
      rcases D1 with d | ⟨d, d'⟩
      all_goals
        go_enter Try.func43, Try.ntmps43
        go_wp2
        go_ret
        exact ⟨by rw [H.out, ← E1.out]; rfl, rfl⟩
    · have D2 : decide (65 ≤ c) = false ∨ (decide (65 ≤ c) = true ∧ decide (c ≤ 70) = false) := by
        by_cases h : 65 ≤ c
        · exact .inr ⟨decide_eq_true h, decide_eq_false (by omega)⟩
        · exact .inl (decide_eq_false h)
      by_cases d3 : 97 ≤ c ∧ c ≤ 102
      · have H := HD (c - 87) (by unfold digI; rw [if_neg d1, if_neg d2, if_pos d3])
        obtain ⟨a, b⟩ := d3
        have E1 : Hid (c - 97 + 10 = c - 87) := by show _ = _; omega
        clear HD d1 d2
        rcases D1 with d | ⟨d, d'⟩
        · simp at d; omega
        rcases D2 with e | ⟨e, e'⟩
        · simp at e; omega
        go_enter Try.func43, Try.ntmps43
        go_wp2
        go_ret
        exact ⟨by rw [H.out, ← E1.out]; rfl, rfl⟩
      · have H := HD (-1) (by unfold digI; rw [if_neg d1, if_neg d2, if_neg d3])
        have D3 : decide (97 ≤ c) = false ∨ (decide (97 ≤ c) = true ∧ decide (c ≤ 102) = false) := by
          by_cases h : 97 ≤ c
          · exact .inr ⟨decide_eq_true h, decide_eq_false (by omega)⟩
          · exact .inl (decide_eq_false h)
        clear HD d1 d2 d3
        rcases D1 with d | ⟨d, d'⟩ <;> rcases D2 with e | ⟨e, e'⟩ <;> rcases D3 with f | ⟨f, f'⟩
        all_goals
          first
          | (exfalso; simp at d e f; omega)
          | (go_enter Try.func43, Try.ntmps43
             go_wp2
             go_ret
             exact ⟨by rw [H.out]; rfl, rfl⟩)

set_option maxRecDepth 20000 in
set_option maxHeartbeats 600000 in
theorem rParse_calls (s : ByteArray) (hs : s.size ≤ 9223372036854775807) (w : World) : Calls Try.prog 14 #[.string s] w (Ret (parseV s) w) := by
  have K0 := bk_alloc (bk_new w (.cells (arr (List.replicate 16 0)) 23)) (.cells (arr (List.replicate 16 0)) 23)
  have K1 := bk_new (w.alloc (.cells (arr (List.replicate 16 0)) 23)) (.cells (arr (List.replicate 16 0)) 23)
  have hB2 := (boxed w (.cells (arr (List.replicate 16 0)) 23)).alloc (by simp) (.cells (arr (List.replicate 16 0)) 23)
  simp only [World.size_alloc] at K1
  rw [← zero16] at K0 K1 hB2
  have K0' := Lib.hid K0; have K1' := Lib.hid K1; have hB2' := Lib.hid hB2; clear K0 K1 hB2
  by_cases hbig : 1048576 < s.size
  · have HP := Lib.hid (parse_text hbig)
    go_enter Try.func14, Try.ntmps14
    go_wp2_with (first | (refine wpList_load_row (by rfl) 23 _ (by rfl) (w.heap.size + 1) (by rfl) 23 (arr (List.replicate 16 0)) (0, 0) _ K1'.out Try.underlying23 rfl (arr_info rep16) ?_) | (refine wpList_store_row (by rfl) 23 _ _ (by rfl) w.heap.size (arr (List.replicate 16 0)) (by rfl) (by rfl) 23 _ K0'.out (arr_info rep16) (by rfl) (arr_one _) ?_))
    refine end_ctt w.heap.size 23 rfl rfl rfl Try.underlying23 rfl ⟨_, setRow_heap _ _ _ _ _ _ K0'.out, arr_info rep16, Ret.of (by rw [HP.out]; rfl) ?_⟩
    exact below_setRow hB2'.out (by omega) _
  · have hge : s.size ≤ 1048576 := by omega
    have HFT : Hid (∀ i, i < 17 → (∀ j, j < i → badB s j = false) → badB s i = true → parseV s = .tuple #[.agg (arr (List.replicate 16 0)), .int .i64 i, .int .i64 290]) := fun i hi h1 h2 => parse_fault hge hi (fbad_at hi h1 h2)
    go_enter Try.func14, Try.ntmps14
    go_wp2_with (first | fail)
    rw [zero16]
    rw [zero16] at K0' K1' hB2'
    generalize ((w.alloc (.cells (arr (List.replicate 16 0)) 23)).alloc (.cells (arr (List.replicate 16 0)) 23)) = W0 at *
    go_loopw [6] (fun i wr => ∃ k : Nat, i = .int .i64 k ∧ k ≤ 17 ∧ Hid (∀ j, j < k → badB s j = false) ∧ Hid (wr.heap[w.heap.size]? = some (.cells (arr (List.replicate 16 0)) 23 (0, 0))) ∧ Hid (wr.heap[w.heap.size + 1]? = some (.cells (arr (digsK s (k - 1))) 23 (0, 0))) ∧ Below w.heap.size w wr) (fun i _ => 17 - (intOf i).toNat)
    case atStart => exact ⟨0, rfl, by omega, fun j hj => absurd hj (by omega), K0'.out, K1'.out, hB2'.out⟩
    clear K0' K1' hB2'
    obtain ⟨k, rfl, hk, HK, H0, H1, hB⟩ := hrel
    by_cases hlt : k < 17
    · by_cases hbd : badB s k = true
      · have HP := Lib.hid (HFT.out k hlt HK.out hbd)
        unfold badB at hbd
        by_cases hend : s.size ≤ k
        · clear hbd
          go_wp2_with (refine wpList_store_row (by rfl) 23 _ _ (by rfl) w.heap.size (arr (List.replicate 16 0)) (by rfl) (by rfl) 23 _ H0.out (arr_info rep16) (by rfl) (arr_one _) ?_)
          refine end_ctt w.heap.size 23 rfl rfl rfl Try.underlying23 rfl ⟨_, setRow_heap _ _ _ _ _ _ H0.out, arr_info rep16, Ret.of (by rw [HP.out]; rfl) ?_⟩
          exact below_setRow hB (by omega) _
        · rw [decide_eq_false hend, Bool.false_or] at hbd
          by_cases hk0 : k = 0
          · subst hk0
            rw [if_pos rfl, Bool.and_eq_true] at hbd
            obtain ⟨m1, m2⟩ := hbd
            have hne : ¬ s = ByteArray.empty := fun e => by rw [e] at hend; simp at hend
            have hx0 : ∀ w, (Instr.index 9 (.string s) (.int .i64 0)).run Try.prog w = .ok (.int .u8 (sbt s 0)) w := fun w => sbt_index s 0 (by omega) .i64 w
            generalize sbt s 0 = c0 at *
            go_wp2_with (refine wpList_store_row (by rfl) 23 _ _ (by rfl) w.heap.size (arr (List.replicate 16 0)) (by rfl) (by rfl) 23 _ H0.out (arr_info rep16) (by rfl) (arr_one _) ?_)
            refine end_ctt w.heap.size 23 rfl rfl rfl Try.underlying23 rfl ⟨_, setRow_heap _ _ _ _ _ _ H0.out, arr_info rep16, Ret.of (by rw [HP.out]; rfl) ?_⟩
            exact below_setRow hB (by omega) _
          · rw [if_neg hk0] at hbd
            have hnk : decide ((s.size : Int) ≤ (k : Int)) = false := decide_eq_false (by omega)
            have hx : ∀ w, (Instr.index 9 (.string s) (.int .i64 (k : Int))).run Try.prog w = .ok (.int .u8 (sbt s k)) w := fun w => sbt_index s k (by omega) .i64 w
            have hc := sbt_bd s k
            have CD := Lib.hid (fun w => digit_calls (sbt s k) hc.1 hc.2 w)
            have hk0' : ((k : Int) == 0) = false := beq_eq_false_iff_ne.2 (by omega)
            have hk1 : decide (0 < (k : Int)) = true := decide_eq_true (by omega)
            have hdb := digI_bd (sbt s k)
            have hd1 : digI (sbt s k) < 0 := by simpa using hbd
            generalize digI (sbt s k) = d at *
            generalize sbt s k = c at *
            have hkp : 0 < k := by omega
            clear hbd
            go_wp2_with (first | (go_at_call 43; ((with_reducible refine (CD.out _).mono ?_); rintro e w' ⟨rfl, rfl⟩)) | (refine wpList_store_row (by rfl) 23 _ _ (by rfl) w.heap.size (arr (List.replicate 16 0)) (by rfl) (by rfl) 23 _ H0.out (arr_info rep16) (by rfl) (arr_one _) ?_))
            refine end_ctt w.heap.size 23 rfl rfl rfl Try.underlying23 rfl ⟨_, setRow_heap _ _ _ _ _ _ H0.out, arr_info rep16, Ret.of (by rw [HP.out]; rfl) ?_⟩
            exact below_setRow hB (by omega) _
      · have hbf : badB s k = false := by simpa using hbd
        have HK2 : Hid (∀ j, j < k + 1 → badB s j = false) := fun j hj => by
          by_cases e : j = k
          · subst e; exact hbf
          · exact HK.out j (by omega)
        clear hbd
        unfold badB at hbf
        rw [Bool.or_eq_false_iff] at hbf
        have hend : k < s.size := by have := hbf.1; simp at this; omega
        have hbf := hbf.2
        by_cases hk0 : k = 0
        · subst hk0
          rw [if_pos rfl] at hbf
          have hne : ¬ s = ByteArray.empty := fun e => by rw [e] at hend; simp at hend
          have hx0 : ∀ w, (Instr.index 9 (.string s) (.int .i64 0)).run Try.prog w = .ok (.int .u8 (sbt s 0)) w := fun w => sbt_index s 0 (by omega) .i64 w
          generalize sbt s 0 = c0 at *
          have hm' : (c0 != 77) = false ∨ ((c0 != 77) = true ∧ (c0 != 109) = false) := by
            cases h : (c0 != 77)
            · exact .inl rfl
            · rw [h, Bool.true_and] at hbf; exact .inr ⟨rfl, hbf⟩
          clear hbf
          rcases hm' with m1 | ⟨m1, m2⟩
          all_goals
            go_wp2_with (first | fail)
            go_roundw
            case rel => exact ⟨1, rfl, by omega, HK2, H0, H1, hB⟩
            case measure => simp [intOf]
        · rw [if_neg hk0] at hbf
          have hnk : decide ((s.size : Int) ≤ (k : Int)) = false := decide_eq_false (by omega)
          have hx : ∀ w, (Instr.index 9 (.string s) (.int .i64 (k : Int))).run Try.prog w = .ok (.int .u8 (sbt s k)) w := fun w => sbt_index s k (by omega) .i64 w
          have hc := sbt_bd s k
          have CD := Lib.hid (fun w => digit_calls (sbt s k) hc.1 hc.2 w)
          have hk0' : ((k : Int) == 0) = false := beq_eq_false_iff_ne.2 (by omega)
          have hk1 : decide (0 < (k : Int)) = true := decide_eq_true (by omega)
          have hdb := digI_bd (sbt s k)
          obtain ⟨m, hm⟩ : ∃ m, m = k - 1 := ⟨_, rfl⟩
          have hm16 : m < 16 := by omega
          have hm16' : (m : Int) < 16 := by omega
          have hsub : (k : Int) - 1 = (m : Int) := by omega
          have H1' : wr.heap[w.heap.size + 1]? = some (.cells (arr (digsK s m)) 23 (0, 0)) := by rw [hm]; exact H1.out
          have hR : ∀ v, digI (sbt s k) = v → Hid ((wr.setCell ⟨w.heap.size + 1, m, none⟩ (.int .u8 v)).heap[w.heap.size + 1]? = some (.cells (arr (digsK s (k + 1 - 1))) 23 (0, 0))) := fun v hv => by
            have e : k = m + 1 := by omega
            have := arr_bk H1' m v
            show _ = some (Obj.cells (arr (digsK s k)) 23 (0, 0))
            rw [e] at hv ⊢
            rw [digsK, hv]
            exact this
          have hd1 : decide (digI (sbt s k) < 0) = false := hbf
          have d0 : 0 ≤ digI (sbt s k) := by simpa using hbf
          generalize digI (sbt s k) = d at *
          generalize sbt s k = c at *
          have hR := hR d rfl
          have hco := bk_cell H1' m
          rw [arr_at (by rw [digsK_length]; omega)] at hco
          have hfo := bk_free H1' m
          have K00 : Hid ((wr.setCell ⟨w.heap.size + 1, m, none⟩ (.int .u8 d)).heap[w.heap.size]? = some (.cells (arr (List.replicate 16 0)) 23 (0, 0))) := bk_far H0.out (by simp) _
          have hB2 : Hid (Below w.heap.size w (wr.setCell ⟨w.heap.size + 1, m, none⟩ (.int .u8 d))) := hB.setCell (p := ⟨w.heap.size + 1, m, none⟩) (by show w.heap.size ≤ w.heap.size + 1; omega) _
          have hkp : 0 < k := by omega
          clear H1 H1' hB hbf hm
          go_wp2_with (first | (go_at_call 43; ((with_reducible refine (CD.out _).mono ?_); rintro e w' ⟨rfl, rfl⟩)))
          go_roundw
          case rel => exact ⟨k + 1, by go_num, by omega, HK2, K00, hR, hB2.out⟩
          case measure => simp [intOf]; omega
    · obtain rfl : k = 17 := by omega
      by_cases hl : 17 < s.size
      · have HP := Lib.hid (parse_long hge hl (fbad_none HK.out))
        go_wp2_with (refine wpList_store_row (by rfl) 23 _ _ (by rfl) w.heap.size (arr (List.replicate 16 0)) (by rfl) (by rfl) 23 _ H0.out (arr_info rep16) (by rfl) (arr_one _) ?_)
        refine end_ctt w.heap.size 23 rfl rfl rfl Try.underlying23 rfl ⟨_, setRow_heap _ _ _ _ _ _ H0.out, arr_info rep16, Ret.of (by rw [HP.out]; rfl) ?_⟩
        exact below_setRow hB (by omega) _
      · have HP := Lib.hid (parse_ok hge (by omega) (fbad_none HK.out))
        have H1' : Hid (wr.heap[w.heap.size + 1]? = some (.cells (arr (digsK s 16)) 23 (0, 0))) := H1.out
        go_wp2_with (first | (refine wpList_load_row (by rfl) 23 _ (by rfl) (w.heap.size + 1) (by rfl) 23 _ (0, 0) _ H1'.out Try.underlying23 rfl (arr_info (digsK_length s 16)) ?_) | (refine wpList_store_row (by rfl) 23 _ _ (by rfl) w.heap.size (arr (digsK s 16)) (by rfl) (by rfl) 23 _ H0.out (arr_info (digsK_length s 16)) (by rw [arr_size, arr_size, digsK_length]; rfl) (arr_one _) ?_))
        refine end_ctt w.heap.size 23 rfl rfl rfl Try.underlying23 rfl ⟨_, setRow_heap _ _ _ _ _ _ H0.out, arr_info (digsK_length s 16), Ret.of (by rw [HP.out]; rfl) ?_⟩
        exact below_setRow hB (by omega) _
end Go.Proofs.Ytdpcmpfhjhbicaa
