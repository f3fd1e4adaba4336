/- BlockForm: the walk. -/
import Derived.Test.YtdpcmpfhjhbicaaBkFm
set_option linter.unusedVariables false
set_option linter.unusedSimpArgs false
namespace Go.Proofs.Ytdpcmpfhjhbicaa
open Go.RowKit Go.Viv

/-- the rule, each number brought under sixteen: the first k -/
def modK (b : List Int) : Nat → List Int
  | 0 => List.replicate 16 0
  | k + 1 => (modK b k).set k (nth b k % 16)
theorem modK_length (b : List Int) : ∀ k, (modK b k).length = 16
  | 0 => rfl
  | k + 1 => by rw [modK, List.length_set, modK_length b k]
theorem modK_bd {b : List Int} (hb : Arr16 b) : ∀ k, k ≤ 16 → ∀ j, j < 16 → 0 ≤ nth (modK b k) j ∧ nth (modK b k) j ≤ 15
  | 0, _, j, hj => by rw [modK, nth_rep _ _ _ hj]; omega
  | k + 1, hk, j, hj => by
    rw [modK, nth_set]
    split
    · omega
    · exact modK_bd hb k (by omega) j hj
theorem mod16 {b : List Int} (hb : Arr16 b) : Arr16 (modK b 16) := ⟨modK_length b 16, fun j hj => by have := modK_bd hb 16 (by omega) j hj; omega⟩
theorem mod_check {b : List Int} (hb : Arr16 b) : checkB (modK b 16) = 0 := checkB_ok fun j hj => (modK_bd hb 16 (by omega) j (by rw [modK_length] at hj; exact hj)).2

theorem eql_zero (w : World) : (binOp .eql 23 (.agg #[.int .u8 0, .int .u8 0, .int .u8 0, .int .u8 0, .int .u8 0, .int .u8 0, .int .u8 0, .int .u8 0, .int .u8 0, .int .u8 0, .int .u8 0, .int .u8 0, .int .u8 0, .int .u8 0, .int .u8 0, .int .u8 0]) (.agg #[.int .u8 0, .int .u8 0, .int .u8 0, .int .u8 0, .int .u8 0, .int .u8 0, .int .u8 0, .int .u8 0, .int .u8 0, .int .u8 0, .int .u8 0, .int .u8 0, .int .u8 0, .int .u8 0, .int .u8 0, .int .u8 0])).run Try.prog w = .ok (.bool true) w := by
  have h := arr_eql rep16 rep16 w
  rw [← zero16] at h
  rw [h]
  simp only [decide_true]
set_option maxRecDepth 20000 in
set_option maxHeartbeats 600000 in
theorem BlockForm_walk (w : World) {b : List Int} (hb : Arr16 b) (s : ByteArray) (hs : s.size ≤ 9223372036854775807) : Calls Try.prog 5 #[.agg (arr b), .string s] w (Ret (.bool true) w) := by
  have KO := bk_new w (.cells (arr b) 23)
  have hB := boxed w (.cells (arr b) 23)
  go_enter Try.func5, Try.ntmps5
  go_wp2_with (first | (go_at_call 12; ((with_reducible refine (alive29 _).mono ?_); rintro e w1 ⟨rfl, hb1⟩; have K1 := bk_below KO hb1; have B1 := next hB hb1)))
  have K2 := bk_new w1 (.cells (arr (modK b 0)) 23)
  have KR := bk_alloc K1 (.cells (arr (modK b 0)) 23)
  have B2 := B1.alloc B1.size (.cells (arr (modK b 0)) 23)
  rw [show (#[.int .u8 0, .int .u8 0, .int .u8 0, .int .u8 0, .int .u8 0, .int .u8 0, .int .u8 0, .int .u8 0, .int .u8 0, .int .u8 0, .int .u8 0, .int .u8 0, .int .u8 0, .int .u8 0, .int .u8 0, .int .u8 0] : Array Value) = arr (modK b 0) from rfl]
  generalize (w1.alloc (.cells (arr (modK b 0)) 23)) = W0 at *
  have hp := Lib.hid B1.size
  have hlt1 := Lib.hid (bk_lt K1)
  have HK2 := Lib.hid K2; have HKR := Lib.hid KR; have HB2 := Lib.hid B2
  clear K2 KR B2 K1 B1 KO hB hb1
  go_loopw [7] (fun i wr => ∃ k : Nat, i = .int .i64 k ∧ k ≤ 16 ∧ Hid (wr.heap[w.heap.size]? = some (.cells (arr b) 23 (0, 0))) ∧ Hid (wr.heap[w1.heap.size]? = some (.cells (arr (modK b k)) 23 (0, 0))) ∧ Below w.heap.size w wr) (fun i _ => 16 - (intOf i).toNat)
  case atStart => exact ⟨0, rfl, by omega, HKR.out, HK2.out, HB2.out⟩
  clear HK2 HKR HB2
  obtain ⟨k, rfl, hk, HR, H2, hB⟩ := hrel
  by_cases hlt : k < 16
  · have hcr := bk_cell HR.out k
    rw [arr_at (by rw [hb.len]; omega)] at hcr
    have hco := bk_cell H2.out k
    rw [arr_at (by rw [modK_length]; omega)] at hco
    have hfo := bk_free H2.out k
    have hbd := hb.bd k hlt
    have hR2 : Hid ((wr.setCell ⟨w1.heap.size, k, none⟩ (.int .u8 (nth b k % 16))).heap[w.heap.size]? = some (.cells (arr b) 23 (0, 0))) := bk_far HR.out (by show w.heap.size ≠ w1.heap.size; have := hlt1.out; omega) _
    have hR3 : Hid ((wr.setCell ⟨w1.heap.size, k, none⟩ (.int .u8 (nth b k % 16))).heap[w1.heap.size]? = some (.cells (arr (modK b (k + 1))) 23 (0, 0))) := arr_bk H2.out k _
    have hB2 := hB.setCell (p := ⟨w1.heap.size, k, none⟩) hp.out (.int .u8 (nth b k % 16))
    clear HR H2
    generalize nth b k = x at *
    go_wp2
    go_roundw
    case rel => exact ⟨k + 1, by go_num, by omega, hR2, hR3, hB2⟩
    case measure => simp [intOf]; omega
  · obtain rfl : k = 16 := by omega
    have hM := mod16 hb
    have hC := mod_check hb
    generalize modK b 16 = M at *
    have C1 := Lib.hid (fun w => Print_calls hM w)
    unfold printV at C1
    rw [hC] at C1
    have hP := print_size hC
    have C2 := Lib.hid (fun w => Parse_calls (printS M) (by rw [hP]; omega) w)
    rw [parse_print hM hC] at C2
    have C3 := Lib.hid (fun w => bCheck_calls hM w)
    rw [hC] at C3
    have C4 := Lib.hid (fun w => Parse_calls s hs w)
    unfold parseV at C4
    generalize printS M = P at *
    have hi := arr_info hM.len
    have hz16 : Hid ((arr (List.replicate 16 0)).size = (arr M).size) := by show _ = _; rw [arr_size, arr_size, hM.len]; rfl
    have hone := Lib.hid (arr_one M)
    obtain ⟨a0, a1, a2, a3, a4, a5, a6, a7, a8, a9, a10, a11, a12, a13, a14, a15, hLe⟩ := list16 hM.len
    have hLA : Hid (arr M = #[.int .u8 a0, .int .u8 a1, .int .u8 a2, .int .u8 a3, .int .u8 a4, .int .u8 a5, .int .u8 a6, .int .u8 a7, .int .u8 a8, .int .u8 a9, .int .u8 a10, .int .u8 a11, .int .u8 a12, .int .u8 a13, .int .u8 a14, .int .u8 a15]) := by show _ = _; rw [hLe]; rfl
    have heq2 : ∀ w, (binOp .neq 23 (.agg #[.int .u8 a0, .int .u8 a1, .int .u8 a2, .int .u8 a3, .int .u8 a4, .int .u8 a5, .int .u8 a6, .int .u8 a7, .int .u8 a8, .int .u8 a9, .int .u8 a10, .int .u8 a11, .int .u8 a12, .int .u8 a13, .int .u8 a14, .int .u8 a15]) (.agg #[.int .u8 a0, .int .u8 a1, .int .u8 a2, .int .u8 a3, .int .u8 a4, .int .u8 a5, .int .u8 a6, .int .u8 a7, .int .u8 a8, .int .u8 a9, .int .u8 a10, .int .u8 a11, .int .u8 a12, .int .u8 a13, .int .u8 a14, .int .u8 a15])).run Try.prog w = .ok (.bool false) w := fun w => by
      have := arr_neq hM.len hM.len w
      rw [← hLA.out]; simpa using this
    have C3' := C3
    rw [hLA.out] at C3'
    clear C3 hLe hM hC hb
    go_wp2_with (first | (refine wpList_load_row (by rfl) 23 _ (by rfl) w1.heap.size (by rfl) 23 _ (0, 0) _ H2.out Try.underlying23 rfl hi ?_) | (go_at_call 16; ((with_reducible refine (C1.out _).mono ?_); rintro e w2 ⟨rfl, hb2⟩; have K2 := bk_below H2.out hb2; have B2 := next hB hb2)) | (go_at_call 13; ((with_reducible refine (C2.out _).mono ?_); rintro e w3 ⟨rfl, hb3⟩; have K3 := bk_below K2 hb3; have B3 := next B2 hb3)) | (refine wpList_store_row (by rfl) 23 _ _ (by rfl) w3.heap.size (arr M) (by rfl) (by rfl) 23 _ (bk_new w3 _) hi hz16.out hone.out ?_; rw [World.setRow_alloc_new]; have L4 := bk_new w3 (.cells (arr M) 23); have K4 := bk_alloc K3 (.cells (arr M) 23); have B4 := B3.alloc B3.size (.cells (arr M) 23); generalize (w3.alloc (.cells (arr M) 23)) = w4 at *; have hk4 := bk_cell (bk_eq K4 hLA.out)) | (go_at_call 17; ((with_reducible refine (C3'.out _).mono ?_); rintro e w5 ⟨rfl, hb5⟩; have K5 := bk_below K4 hb5; have L5 := bk_below L4 hb5; have B5 := next B4 hb5; have hk5 := bk_cell (bk_eq K5 hLA.out); have hl5 := bk_cell (bk_eq L5 hLA.out))))
    clear K2 K3 K4 K5 L4 L5 hk4 hk5 hl5 HR H2 B2 B3 B4 hb2 hb3 hb5 hB C1 C2 C3' hi hz16 hone hLA heq2 hp hlt1 hP
    by_cases hE : parseE s = 0
    · obtain ⟨hL, hLc, hlet⟩ := form_letters hE
      have hs17 := (parse_yes hE).1
      have hu17 := print_size hLc
      have C5 := Lib.hid (fun w => Print_calls hL w)
      unfold printV at C5
      rw [hLc] at C5
      rw [hE] at C4
      have hi := arr_info hL.len
      have hz16 : Hid ((arr (List.replicate 16 0)).size = (arr (parseL s)).size) := by show _ = _; rw [arr_size, arr_size, hL.len]; rfl
      have hone := Lib.hid (arr_one (parseL s))
      clear hLc hL hE
      generalize parseL s = L at *
      generalize printS L = U at *
      generalize parseN s = N at *
      have hlen : ((U.size : Int) != (s.size : Int)) = false := by rw [hs17, hu17]; rfl
      have hlet' := Lib.hid hlet
      clear hlet
      go_wp2_with (first | (go_at_call 13; ((with_reducible refine (C4.out _).mono ?_); rintro e w6 ⟨rfl, hb6⟩; have B6 := next B5 hb6)) | (refine wpList_store_row (by rfl) 23 _ _ (by rfl) w6.heap.size (arr L) (by rfl) (by rfl) 23 _ (bk_new w6 _) hi hz16.out hone.out ?_; rw [World.setRow_alloc_new]; have K7 := bk_new w6 (.cells (arr L) 23); have B7 := B6.alloc B6.size (.cells (arr L) 23); generalize (w6.alloc (.cells (arr L) 23)) = w7 at *) | (refine wpList_load_row (by rfl) 23 _ (by rfl) w6.heap.size (by rfl) 23 _ (0, 0) _ K7 Try.underlying23 rfl hi ?_) | (go_at_call 16; ((with_reducible refine (C5.out _).mono ?_); rintro e w8 ⟨rfl, hb8⟩; have B8 := next B7 hb8)))
      clear K7 B7 B6 B5 hb6 hb8 C4 C5 hi hz16 hone hlen
      have HB8 := Lib.hid B8
      clear B8
      go_loopw [17] (fun i wr => ∃ k : Nat, i = .int .i64 k ∧ k ≤ 17 ∧ Below w.heap.size w wr) (fun i _ => 17 - (intOf i).toNat)
      case atStart => exact ⟨0, rfl, by omega, HB8.out⟩
      clear HB8
      obtain ⟨k, rfl, hk, hB⟩ := hrel
      by_cases hlt : k < 17
      · have hlc : (k : Int) < (U.size : Int) := by rw [hu17]; omega
        have hxs : ∀ w, (Instr.index 9 (.string s) (.int .i64 (k : Int))).run Try.prog w = .ok (.int .u8 (sbt s k)) w := fun w => sbt_index s k (by omega) .i64 w
        have hxu : ∀ w, (Instr.index 9 (.string U) (.int .i64 (k : Int))).run Try.prog w = .ok (.int .u8 (upA (sbt s k))) w := fun w => by rw [← hlet'.out k hlt]; exact sbt_index U k (by omega) .i64 w
        have hc := sbt_bd s k
        generalize sbt s k = c at *
        obtain ⟨hc0, hc1⟩ := hc
        have hk1 : (k : Int) < 17 := by omega
        clear hlet' hs17 hu17
        by_cases h1 : 97 ≤ c
        · by_cases h2 : c ≤ 122
          · rw [show upA c = c - 32 from by unfold upA; rw [if_pos ⟨h1, h2⟩]] at hxu
            have hne : ((c - 32) != (c - 32)) = false := by simp
            go_wp2
            go_roundw
            case rel => exact ⟨k + 1, by go_num, by omega, hB⟩
            case measure => simp [intOf]; omega
          · rw [show upA c = c from by unfold upA; rw [if_neg (fun h => h2 h.2)]] at hxu
            have hne : (c != c) = false := by simp
            go_wp2
            go_roundw
            case rel => exact ⟨k + 1, by go_num, by omega, hB⟩
            case measure => simp [intOf]; omega
        · rw [show upA c = c from by unfold upA; rw [if_neg (fun h => h1 h.1)]] at hxu
          have hne : (c != c) = false := by simp
          go_wp2
          go_roundw
          case rel => exact ⟨k + 1, by go_num, by omega, hB⟩
          case measure => simp [intOf]; omega
      · obtain rfl : k = 17 := by omega
        have hnl : ¬ ((17 : Int) < (U.size : Int)) := by rw [hu17]; omega
        go_wp2
        go_ret
        exact Ret.of rfl hB
    · obtain ⟨hN0, hN1, hL0⟩ := parse_no hE
      have hne : (parseE s != 0) = true := bne_iff_ne.2 hE
      obtain ⟨z, hz⟩ : ∃ z : Int, z = 0 := ⟨0, rfl⟩
      obtain ⟨L, hLl, hLz, hLr⟩ : ∃ L : List Int, L.length = 16 ∧ arr L = #[.int .u8 z, .int .u8 z, .int .u8 z, .int .u8 z, .int .u8 z, .int .u8 z, .int .u8 z, .int .u8 z, .int .u8 z, .int .u8 z, .int .u8 z, .int .u8 z, .int .u8 z, .int .u8 z, .int .u8 z, .int .u8 z] ∧ List.replicate 16 0 = L := ⟨List.replicate 16 z, rfl, rfl, by rw [hz]⟩
      have heq0 : ∀ w, (binOp .eql 23 (.agg #[.int .u8 z, .int .u8 z, .int .u8 z, .int .u8 z, .int .u8 z, .int .u8 z, .int .u8 z, .int .u8 z, .int .u8 z, .int .u8 z, .int .u8 z, .int .u8 z, .int .u8 z, .int .u8 z, .int .u8 z, .int .u8 z]) (.agg #[.int .u8 0, .int .u8 0, .int .u8 0, .int .u8 0, .int .u8 0, .int .u8 0, .int .u8 0, .int .u8 0, .int .u8 0, .int .u8 0, .int .u8 0, .int .u8 0, .int .u8 0, .int .u8 0, .int .u8 0, .int .u8 0])).run Try.prog w = .ok (.bool true) w := fun w => by rw [hz]; exact eql_zero w
      rw [hL0, hLr] at C4
      have hi := arr_info hLl
      have hz16 : Hid ((arr (List.replicate 16 0)).size = (arr L).size) := by show _ = _; rw [arr_size, arr_size, hLl]; rfl
      have hone := Lib.hid (arr_one L)
      have hLz2 := Lib.hid hLz
      clear hz hLr hLl hL0 hE hLz
      generalize parseE s = E at *
      generalize parseN s = N at *
      go_wp2_with (first | (go_at_call 13; ((with_reducible refine (C4.out _).mono ?_); rintro e w6 ⟨rfl, hb6⟩; have B6 := next B5 hb6)) | (refine wpList_store_row (by rfl) 23 _ _ (by rfl) w6.heap.size (arr L) (by rfl) (by rfl) 23 _ (bk_new w6 _) hi hz16.out hone.out ?_; rw [World.setRow_alloc_new]; have K7 := bk_new w6 (.cells (arr L) 23); have B7 := B6.alloc B6.size (.cells (arr L) 23); generalize (w6.alloc (.cells (arr L) 23)) = w7 at *; have hk7 := bk_cell (bk_eq K7 hLz2.out)))
      go_ret
      exact Ret.of rfl B7
end Go.Proofs.Ytdpcmpfhjhbicaa
