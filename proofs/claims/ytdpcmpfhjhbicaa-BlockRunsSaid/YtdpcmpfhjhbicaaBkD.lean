/- Digits; Parse. -/
import Derived.Test.YtdpcmpfhjhbicaaBkA
set_option linter.unusedVariables false
set_option linter.unusedSimpArgs false
namespace Go.Proofs.Ytdpcmpfhjhbicaa
open Go.RowKit Go.Viv

/-- a digit of sixteen's; -1: it is none -/
def digI (c : Int) : Int := if 48 ≤ c ∧ c ≤ 57 then c - 48 else if 65 ≤ c ∧ c ≤ 70 then c - 55 else if 97 ≤ c ∧ c ≤ 102 then c - 87 else -1
/-- the digit of a number -/
def dch (n : Nat) : Int := if n < 10 then 48 + n else 55 + n
/-- great letters -/
def upI (c : Int) : Int := if 97 ≤ c ∧ c ≤ 102 then c - 32 else c
theorem digI_bd (c : Int) : -1 ≤ digI c ∧ digI c ≤ 15 := by unfold digI; split <;> (try split) <;> (try split) <;> omega
theorem dch_eq {n : Nat} (h : n < 16) (c : Int) : dch n = upI c ↔ digI c = n := by
  unfold dch upI digI
  split <;> (split <;> (split <;> (try (split <;> (try split))))) <;> omega
/-- a byte of a text -/
def sbt (s : ByteArray) (k : Nat) : Int := ((s.data.toList.getD k 0).toNat : Int)
theorem sbt_bd (s : ByteArray) (k : Nat) : 0 ≤ sbt s k ∧ sbt s k ≤ 255 := by
  unfold sbt
  have := (s.data.toList.getD k 0).toNat_lt
  omega
theorem sbt_index (s : ByteArray) (k : Nat) (h : k < s.size) (kk : IntKind) (w : World) : (Instr.index 9 (.string s) (.int kk k)).run Try.prog w = .ok (.int .u8 (sbt s k)) w := by
  have h1 : k < s.data.size := h
  simp [Instr.index, run_underlying Try.underlying9, asIntOf, h, sbt, h1]
  rfl
theorem sbt_dig : ∀ k, k < 16 → sbt { data := #[48, 49, 50, 51, 52, 53, 54, 55, 56, 57, 65, 66, 67, 68, 69, 70] } k = dch k := by decide
theorem dig_index (k : Nat) (hk : k < 16) (w : World) : (Instr.index 9 (.string { data := #[48, 49, 50, 51, 52, 53, 54, 55, 56, 57, 65, 66, 67, 68, 69, 70] }) (.int .u8 k)).run Try.prog w = .ok (.int .u8 (dch k)) w := by
  rw [sbt_index { data := #[48, 49, 50, 51, 52, 53, 54, 55, 56, 57, 65, 66, 67, 68, 69, 70] } k (by show k < 16; exact hk), sbt_dig k hk]

def worthV (c : Int) : Value := if 0 ≤ digI c then .tuple #[.int .u8 (digI c), .bool true] else .tuple #[.int .u8 0, .bool false]
set_option maxRecDepth 20000 in
set_option maxHeartbeats 2000000 in
theorem worth_calls (c : Int) (h0 : 0 ≤ c) (h1 : c ≤ 255) (w : World) : Calls Try.prog 42 #[.int .u8 c] w fun e w' => e = .returned (worthV c) ∧ w = w' := by
  have HX : Hid (∀ k : Nat, k < 16 → dch k = upI c → worthV c = .tuple #[.int .u8 k, .bool true]) := fun k hk e => by
    have := (dch_eq hk c).1 e
    unfold worthV; rw [if_pos (by omega), this]
  have HN : Hid ((∀ k : Nat, k < 16 → dch k ≠ upI c) → worthV c = .tuple #[.int .u8 0, .bool false]) := fun hh => by
    unfold worthV; rw [if_neg]
    intro h
    have hd := digI_bd c
    exact hh (digI c).toNat (by omega) ((dch_eq (by omega) c).2 (by omega))
  have key : ∀ u : Int, 0 ≤ u → u ≤ 255 → upI c = u → Hid (∀ k : Nat, k < 16 → dch k = u → worthV c = .tuple #[.int .u8 k, .bool true]) ∧ Hid ((∀ k : Nat, k < 16 → dch k ≠ u) → worthV c = .tuple #[.int .u8 0, .bool false]) := fun u _ _ e => by rw [e] at HX HN; exact ⟨HX, HN⟩
  by_cases hl : 97 ≤ c ∧ c ≤ 102
  · obtain ⟨HX, HN⟩ := key (c - 32) (by omega) (by omega) (by unfold upI; rw [if_pos hl])
    obtain ⟨l1, l2⟩ := hl
    clear key
    go_enter Try.func42, Try.ntmps42
    go_wp2
    generalize c - 32 = u at *
    go_loop [13] (fun i => ∃ k : Nat, i = .int .u8 k ∧ k ≤ 16 ∧ Hid (∀ j : Nat, j < k → dch j ≠ u)) (fun i => 16 - (intOf i).toNat)
    case atStart => exact ⟨0, rfl, by omega, fun _ h => absurd h (by omega)⟩
    case round =>
      obtain ⟨k, rfl, hk, HK⟩ := hrel
      by_cases hlt : k < 16
      · have hix := fun w => dig_index k hlt w
        by_cases he : dch k = u
        · have hne : (dch k == u) = true := by simp [he]
          have HR := Lib.hid (HX.out k hlt he)
          generalize dch k = d at *
          clear he
          go_wp2
          go_ret2
          exact ⟨by rw [HR.out]; rfl, rfl⟩
        · have hne : (dch k == u) = false := by simp [he]
          have HK2 : Hid (∀ j : Nat, j < k + 1 → dch j ≠ u) := fun j hj => by
            by_cases e : j = k
            · subst e; exact he
            · exact HK.out j (by omega)
          generalize dch k = d at *
          clear he
          go_wp2
          go_round
          case rel => exact ⟨k + 1, by go_num, by omega, HK2⟩
          case measure => simp [intOf]; omega
      · have HR := Lib.hid (HN.out fun j hj => HK.out j (by omega))
        go_wp2
        go_ret2
        exact ⟨by rw [HR.out]; rfl, rfl⟩
  · obtain ⟨HX, HN⟩ := key c h0 h1 (by unfold upI; rw [if_neg hl])
    clear key
    have hl' : decide (97 ≤ c) = false ∨ (decide (97 ≤ c) = true ∧ decide (c ≤ 102) = false) := by
      by_cases h : 97 ≤ c
      · exact .inr ⟨decide_eq_true h, decide_eq_false (by omega)⟩
      · exact .inl (decide_eq_false h)
    clear hl
    rcases hl' with d1 | ⟨d1, d2⟩
    all_goals
      go_enter Try.func42, Try.ntmps42
      go_wp2
      go_loop [13] (fun i => ∃ k : Nat, i = .int .u8 k ∧ k ≤ 16 ∧ Hid (∀ j : Nat, j < k → dch j ≠ c)) (fun i => 16 - (intOf i).toNat)
      case atStart => exact ⟨0, rfl, by omega, fun _ h => absurd h (by omega)⟩
      case round =>
        obtain ⟨k, rfl, hk, HK⟩ := hrel
        by_cases hlt : k < 16
        · have hix := fun w => dig_index k hlt w
          by_cases he : dch k = c
          · have hne : (dch k == c) = true := by simp [he]
            have HR := Lib.hid (HX.out k hlt he)
            generalize dch k = d at *
            clear he
            go_wp2
            go_ret2
            exact ⟨by rw [HR.out]; rfl, rfl⟩
          · have hne : (dch k == c) = false := by simp [he]
            have HK2 : Hid (∀ j : Nat, j < k + 1 → dch j ≠ c) := fun j hj => by
              by_cases e : j = k
              · subst e; exact he
              · exact HK.out j (by omega)
            generalize dch k = d at *
            clear he
            go_wp2
            go_round
            case rel => exact ⟨k + 1, by go_num, by omega, HK2⟩
            case measure => simp [intOf]; omega
        · have HR := Lib.hid (HN.out fun j hj => HK.out j (by omega))
          go_wp2
          go_ret2
          exact ⟨by rw [HR.out]; rfl, rfl⟩

/-- what block.Parse reads: is there a fault at a place? -/
def badB (s : ByteArray) (i : Nat) : Bool := decide (s.size ≤ i) || (if i = 0 then (sbt s 0 != 77 && sbt s 0 != 109) else decide (digI (sbt s i) < 0))
/-- the first fault; 17: none -/
def fbad (s : ByteArray) : Nat := ((List.range 17).find? (badB s)).getD 17
theorem fbad_at {s : ByteArray} {i : Nat} (hi : i < 17) (h : ∀ j, j < i → badB s j = false) (hb : badB s i = true) : fbad s = i := by
  unfold fbad
  rw [show (17 : Nat) = i + (17 - i) by omega, List.range_add, List.find?_append, show 17 - i = (16 - i) + 1 by omega, List.range_succ_eq_map]
  have e : (List.range i).find? (badB s) = none := by
    rw [List.find?_eq_none]
    intro x hx
    simp [h x (List.mem_range.1 hx)]
  rw [e]
  simp [hb]
theorem fbad_none {s : ByteArray} (h : ∀ j, j < 17 → badB s j = false) : fbad s = 17 := by
  unfold fbad
  have e : (List.range 17).find? (badB s) = none := by
    rw [List.find?_eq_none]
    intro x hx
    simp [h x (List.mem_range.1 hx)]
  rw [e]; rfl
/-- the rule's first k numbers -/
def digsK (s : ByteArray) : Nat → List Int
  | 0 => List.replicate 16 0
  | k + 1 => (digsK s k).set k (digI (sbt s (k + 1)))
theorem digsK_length (s : ByteArray) (k : Nat) : (digsK s k).length = 16 := by
  induction k with
  | zero => rfl
  | succ k ih => simp [digsK, ih]
def parseE (s : ByteArray) : Int := if 1048576 < s.size then 3 else if fbad s < 17 ∨ 17 < s.size then 290 else 0
def parseN (s : ByteArray) : Int := if 1048576 < s.size then 0 else if fbad s < 17 then fbad s else if 17 < s.size then 17 else 0
def parseL (s : ByteArray) : List Int := if parseE s = 0 then digsK s 16 else List.replicate 16 0
theorem parseL_length (s : ByteArray) : (parseL s).length = 16 := by unfold parseL; split; exact digsK_length s 16; rfl
def parseV (s : ByteArray) : Value := .tuple #[.agg (arr (parseL s)), .int .i64 (parseN s), .int .i64 (parseE s)]
theorem parse_fault {s : ByteArray} {i : Nat} (h0 : s.size ≤ 1048576) (hi : i < 17) (h : fbad s = i) : parseV s = .tuple #[.agg (arr (List.replicate 16 0)), .int .i64 i, .int .i64 290] := by
  have e : parseE s = 290 := by unfold parseE; rw [if_neg (by omega), if_pos (by omega)]
  unfold parseV parseL parseN
  rw [e, if_neg (by omega), if_neg (by omega), if_pos (by omega), h]
theorem parse_long {s : ByteArray} (h0 : s.size ≤ 1048576) (hl : 17 < s.size) (h : fbad s = 17) : parseV s = .tuple #[.agg (arr (List.replicate 16 0)), .int .i64 17, .int .i64 290] := by
  have e : parseE s = 290 := by unfold parseE; rw [if_neg (by omega), if_pos (by omega)]
  unfold parseV parseL parseN
  rw [e, if_neg (by omega), if_neg (by omega), if_neg (by omega), if_pos hl]
theorem parse_ok {s : ByteArray} (h0 : s.size ≤ 1048576) (hl : s.size ≤ 17) (h : fbad s = 17) : parseV s = .tuple #[.agg (arr (digsK s 16)), .int .i64 0, .int .i64 0] := by
  have e : parseE s = 0 := by unfold parseE; rw [if_neg (by omega), if_neg (by omega)]
  unfold parseV parseL parseN
  rw [e, if_pos rfl, if_neg (by omega), if_neg (by omega), if_neg (by omega)]
theorem parse_text {s : ByteArray} (h0 : 1048576 < s.size) : parseV s = .tuple #[.agg (arr (List.replicate 16 0)), .int .i64 0, .int .i64 3] := by
  have e : parseE s = 3 := by unfold parseE; rw [if_pos h0]
  unfold parseV parseL parseN
  rw [e, if_neg (by omega), if_pos h0]
theorem rep16 : (List.replicate 16 (0 : Int)).length = 16 := rfl

set_option maxRecDepth 20000 in
set_option maxHeartbeats 4000000 in
theorem Parse_calls (s : ByteArray) (hs : s.size ≤ 9223372036854775807) (w : World) : Calls Try.prog 13 #[.string s] w (Ret (parseV s) w) := by
  have KR := bk_new w (.cells (arr (List.replicate 16 0)) 23)
  have hB := boxed w (.cells (arr (List.replicate 16 0)) 23)
  rw [← zero16] at KR hB
  have KR' := Lib.hid KR; have hB' := Lib.hid hB; clear KR hB
  have hsz : ∀ (n : Nat), s.size = n → (s.size : Int) = n := fun n h => by rw [h]
  by_cases hbig : 1048576 < s.size
  · have HP := Lib.hid (parse_text hbig)
    clear hsz
    go_enter Try.func13, Try.ntmps13
    go_wp2_with (refine wpList_store_row (by rfl) 23 _ _ (by rfl) w.heap.size (arr (List.replicate 16 0)) (by rfl) (by rfl) 23 _ KR'.out (arr_info rep16) (by rfl) (arr_one _) ?_)
    refine end_ctt w.heap.size 23 rfl rfl rfl Try.underlying23 rfl ⟨_, setRow_heap _ _ _ _ _ _ KR'.out, arr_info rep16, Ret.of (by rw [HP.out]; rfl) ?_⟩
    exact below_setRow hB'.out (by omega) _
  · have hge : s.size ≤ 1048576 := by omega
    by_cases hz : s.size = 0
    · have HP := Lib.hid (parse_fault (s := s) (i := 0) hge (by omega) (fbad_at (by omega) (fun j hj => absurd hj (by omega)) (by unfold badB; simp [hz])))
      have hz1 : ((s.size : Int) == 0) = true := by rw [hz]; rfl
      clear hsz hz hbig
      go_enter Try.func13, Try.ntmps13
      go_wp2_with (refine wpList_store_row (by rfl) 23 _ _ (by rfl) w.heap.size (arr (List.replicate 16 0)) (by rfl) (by rfl) 23 _ KR'.out (arr_info rep16) (by rfl) (arr_one _) ?_)
      refine end_ctt w.heap.size 23 rfl rfl rfl Try.underlying23 rfl ⟨_, setRow_heap _ _ _ _ _ _ KR'.out, arr_info rep16, Ret.of (by rw [HP.out]; rfl) ?_⟩
      exact below_setRow hB'.out (by omega) _
    · have hz1 : ((s.size : Int) == 0) = false := beq_eq_false_iff_ne.2 (by omega)
      have hx0 : ∀ w, (Instr.index 9 (.string s) (.int .i64 0)).run Try.prog w = .ok (.int .u8 (sbt s 0)) w := fun w => sbt_index s 0 (by omega) .i64 w
      by_cases hm : sbt s 0 ≠ 77 ∧ sbt s 0 ≠ 109
      · have HP := Lib.hid (parse_fault (s := s) (i := 0) hge (by omega) (fbad_at (by omega) (fun j hj => absurd hj (by omega)) (by unfold badB; simp [hm.1, hm.2])))
        have hm1 : (sbt s 0 != 77) = true := bne_iff_ne.2 hm.1
        have hm2 : (sbt s 0 != 109) = true := bne_iff_ne.2 hm.2
        generalize sbt s 0 = c0 at *
        clear hsz hz hbig hm
        go_enter Try.func13, Try.ntmps13
        go_wp2_with (refine wpList_store_row (by rfl) 23 _ _ (by rfl) w.heap.size (arr (List.replicate 16 0)) (by rfl) (by rfl) 23 _ KR'.out (arr_info rep16) (by rfl) (arr_one _) ?_)
        refine end_ctt w.heap.size 23 rfl rfl rfl Try.underlying23 rfl ⟨_, setRow_heap _ _ _ _ _ _ KR'.out, arr_info rep16, Ret.of (by rw [HP.out]; rfl) ?_⟩
        exact below_setRow hB'.out (by omega) _
      · have hb0 : Hid (badB s 0 = false) := by
          show _ = _; unfold badB
          rw [if_pos rfl, decide_eq_false (by omega)]
          by_cases e : sbt s 0 = 77
          · simp [e]
          · have : sbt s 0 = 109 := by omega
            simp [this]
        have hm' : (sbt s 0 != 77) = false ∨ ((sbt s 0 != 77) = true ∧ (sbt s 0 != 109) = false) := by
          by_cases e : sbt s 0 = 77
          · exact .inl (by simp [e])
          · exact .inr ⟨bne_iff_ne.2 e, by have : sbt s 0 = 109 := by omega
                                           simp [this]⟩
        clear hm
        generalize hc0 : sbt s 0 = c0 at *
        clear hc0
        have K0 := bk_alloc (bk_new w (.cells (arr (List.replicate 16 0)) 23)) (.cells (arr (List.replicate 16 0)) 23)
        have K1 := bk_new (w.alloc (.cells (arr (List.replicate 16 0)) 23)) (.cells (arr (List.replicate 16 0)) 23)
        have hB2 := (boxed w (.cells (arr (List.replicate 16 0)) 23)).alloc (by simp) (.cells (arr (List.replicate 16 0)) 23)
        simp only [World.size_alloc] at K1
        have K0' := Lib.hid K0; have K1' := Lib.hid K1; have hB2' := Lib.hid hB2; clear K0 K1 hB2 KR' hB'
        rcases hm' with m1 | ⟨m1, m2⟩
        all_goals
          go_enter Try.func13, Try.ntmps13
          go_wp2_with (first | fail)
          rw [zero16]
          clear hx0
          generalize ((w.alloc (.cells (arr (List.replicate 16 0)) 23)).alloc (.cells (arr (List.replicate 16 0)) 23)) = W0 at *
          go_loopw [27] (fun i wr => ∃ k : Nat, i = .int .i64 k ∧ k ≤ 16 ∧ Hid (∀ j, j < k + 1 → badB s j = false) ∧ Hid (wr.heap[w.heap.size]? = some (.cells (arr (List.replicate 16 0)) 23 (0, 0))) ∧ Hid (wr.heap[w.heap.size + 1]? = some (.cells (arr (digsK s k)) 23 (0, 0))) ∧ Below w.heap.size w wr) (fun i _ => 16 - (intOf i).toNat)
          case atStart => exact ⟨0, rfl, by omega, fun j hj => by obtain rfl : j = 0 := by omega
                                                                  exact hb0.out, K0', K1', hB2'.out⟩
          clear K0' K1' hB2' hb0
          obtain ⟨k, rfl, hk, HK, H0, H1, hB⟩ := hrel
          by_cases hlt : k < 16
          · by_cases hend : s.size ≤ k + 1
            · have hsk : Hid ((s.size : Int) = k + 1) := by
                show _ = _
                have := HK.out k (by omega)
                unfold badB at this
                simp at this; omega
              have HP := Lib.hid (parse_fault (s := s) (i := k + 1) hge (by omega) (fbad_at (by omega) HK.out (by unfold badB; simp [hend])))
              go_wp2_with (refine wpList_store_row (by rfl) 23 _ _ (by rfl) w.heap.size (arr (List.replicate 16 0)) (by rfl) (by rfl) 23 _ H0.out (arr_info rep16) (by rfl) (arr_one _) ?_)
              refine end_ctt w.heap.size 23 rfl rfl rfl Try.underlying23 rfl ⟨_, setRow_heap _ _ _ _ _ _ H0.out, arr_info rep16, Ret.of (by rw [HP.out]; show Value.tuple #[_, Value.int .i64 (s.size : Int), _] = _; rw [hsk.out]; rfl) ?_⟩
              exact below_setRow hB (by omega) _
            · have hix : ∀ w, (Instr.index 9 (.string s) (.int .i64 ((k : Int) + 1))).run Try.prog w = .ok (.int .u8 (sbt s (k + 1))) w := fun w => sbt_index s (k + 1) (by omega) .i64 w
              have hc := sbt_bd s (k + 1)
              have CW := worth_calls (sbt s (k + 1)) hc.1 hc.2 wr
              by_cases hd : 0 ≤ digI (sbt s (k + 1))
              · have hdb := digI_bd (sbt s (k + 1))
                rw [show worthV (sbt s (k + 1)) = .tuple #[.int .u8 (digI (sbt s (k + 1))), .bool true] by unfold worthV; rw [if_pos hd]] at CW
                have CW' := Lib.hid CW
                have HK2 : Hid (∀ j, j < k + 1 + 1 → badB s j = false) := fun j hj => by
                  by_cases e : j = k + 1
                  · subst e; unfold badB; rw [if_neg (by omega), decide_eq_false (by omega), decide_eq_false (by omega)]; rfl
                  · exact HK.out j (by omega)
                have K1 : ∀ v, digI (sbt s (k + 1)) = v → Hid ((wr.setCell ⟨w.heap.size + 1, k, none⟩ (.int .u8 v)).heap[w.heap.size + 1]? = some (.cells (arr (digsK s (k + 1))) 23 (0, 0))) := fun v hv => by
                  show _ = _
                  rw [digsK, hv]
                  exact arr_bk H1.out k v
                generalize digI (sbt s (k + 1)) = d at *
                generalize sbt s (k + 1) = c at *
                have KK := K1 d rfl
                have K00 : Hid ((wr.setCell ⟨w.heap.size + 1, k, none⟩ (.int .u8 d)).heap[w.heap.size]? = some (.cells (arr (List.replicate 16 0)) 23 (0, 0))) := bk_far H0.out (by simp) _
                have hB2 : Hid (Below w.heap.size w (wr.setCell ⟨w.heap.size + 1, k, none⟩ (.int .u8 d))) := hB.setCell (p := ⟨w.heap.size + 1, k, none⟩) (by show w.heap.size ≤ w.heap.size + 1; omega) _
                have hco := bk_cell H1.out k
                rw [arr_at (by rw [digsK_length]; omega)] at hco
                have hfo := bk_free H1.out k
                clear CW K1 H0 H1 hB hd
                go_wp2_with (go_at_call 42; ((with_reducible refine CW'.out.mono ?_); rintro e w' ⟨rfl, rfl⟩))
                go_roundw
                case rel => exact ⟨k + 1, by go_num, by omega, HK2, K00, KK, hB2.out⟩
                case measure => simp [intOf]; omega
              · rw [show worthV (sbt s (k + 1)) = .tuple #[.int .u8 0, .bool false] by unfold worthV; rw [if_neg hd]] at CW
                have CW' := Lib.hid CW
                have HP := Lib.hid (parse_fault (s := s) (i := k + 1) hge (by omega) (fbad_at (by omega) HK.out (by unfold badB; rw [if_neg (by omega), decide_eq_true (show digI (sbt s (k + 1)) < 0 by omega)]; simp)))
                generalize sbt s (k + 1) = c at *
                clear CW hd
                go_wp2_with (first | (go_at_call 42; ((with_reducible refine CW'.out.mono ?_); rintro e w' ⟨rfl, rfl⟩)) | (refine wpList_store_row (by rfl) 23 _ _ (by rfl) w.heap.size (arr (List.replicate 16 0)) (by rfl) (by rfl) 23 _ H0.out (arr_info rep16) (by rfl) (arr_one _) ?_))
                refine end_ctt w.heap.size 23 rfl rfl rfl Try.underlying23 rfl ⟨_, setRow_heap _ _ _ _ _ _ H0.out, arr_info rep16, Ret.of (by rw [HP.out]; rfl) ?_⟩
                exact below_setRow hB (by omega) _
          · obtain rfl : k = 16 := by omega
            by_cases hl : 17 < s.size
            · have HP := Lib.hid (parse_long hge hl (fbad_none HK.out))
              go_wp2_with (refine wpList_store_row (by rfl) 23 _ _ (by rfl) w.heap.size (arr (List.replicate 16 0)) (by rfl) (by rfl) 23 _ H0.out (arr_info rep16) (by rfl) (arr_one _) ?_)
              refine end_ctt w.heap.size 23 rfl rfl rfl Try.underlying23 rfl ⟨_, setRow_heap _ _ _ _ _ _ H0.out, arr_info rep16, Ret.of (by rw [HP.out]; rfl) ?_⟩
              exact below_setRow hB (by omega) _
            · have HP := Lib.hid (parse_ok hge (by omega) (fbad_none HK.out))
              go_wp2_with (first | (refine wpList_load_row (by rfl) 23 _ (by rfl) (w.heap.size + 1) (by rfl) 23 _ (0, 0) _ H1.out Try.underlying23 rfl (arr_info (digsK_length s 16)) ?_) | (refine wpList_store_row (by rfl) 23 _ _ (by rfl) w.heap.size (arr (digsK s 16)) (by rfl) (by rfl) 23 _ H0.out (arr_info (digsK_length s 16)) (by rw [arr_size, arr_size, digsK_length]; rfl) (arr_one _) ?_))
              refine end_ctt w.heap.size 23 rfl rfl rfl Try.underlying23 rfl ⟨_, setRow_heap _ _ _ _ _ _ H0.out, arr_info (digsK_length s 16), Ret.of (by rw [HP.out]; rfl) ?_⟩
              exact below_setRow hB (by omega) _
end Go.Proofs.Ytdpcmpfhjhbicaa
