/- A rule that can be run backward, out of any numbers (order). -/
import Derived.Test.YtdpcmpfhjhbicaaBkUp
import Derived.Test.YtdpcmpfhjhbicaaRfNew
import Derived.RegionTactic
import Derived.ChangeAlike
import Derived.BigRegion
set_option linter.unusedVariables false
set_option linter.unusedSimpArgs false
namespace Go.Proofs.Ytdpcmpfhjhbicaa
open Go.RowKit Go.Viv

set_option maxRecDepth 20000 in
set_option maxHeartbeats 3000000 in
theorem order_calls (A : Option Addr) (n c : Nat) (l : List Int) (w : World) (hn : l.length = n) (hnb : n ≤ 9223372036854775807) (hA : 0 < n → ∃ b off, A = some ⟨b, off, none⟩) (hr : Rd w A (l.map (.int .u8))) (hbl : ∀ z ∈ l, 0 ≤ z ∧ z ≤ 255) :
    Calls Try.prog 21 #[.slice A n c] w (Ret (.agg (arr (orderL l))) w) := by
  have K0 := bk_alloc (bk_new w (.cells (arr (idL 0)) 23)) (.cells (arr (idL 0)) 23)
  have K1 := bk_newn (w.alloc (.cells (arr (idL 0)) 23)) (.cells (arr (idL 0)) 23) (w.heap.size + 1) (by simp)
  have hB := (boxed w (.cells (arr (idL 0)) 23)).alloc (by simp) (.cells (arr (idL 0)) 23)
  have HN := Lib.hid hn; have HA := Lib.hid hA; have HR := Lib.hid hr; have HBL := Lib.hid hbl
  clear hn hA hr hbl
  go_enter Try.func21, Try.ntmps21
  go_wp2_with (first | fail)
  rw [show (#[.int .u8 0, .int .u8 0, .int .u8 0, .int .u8 0, .int .u8 0, .int .u8 0, .int .u8 0, .int .u8 0, .int .u8 0, .int .u8 0, .int .u8 0, .int .u8 0, .int .u8 0, .int .u8 0, .int .u8 0, .int .u8 0] : Array Value) = arr (idL 0) from rfl]
  generalize (w.alloc (.cells (arr (idL 0)) 23)).alloc (.cells (arr (idL 0)) 23) = W0 at *
  have HK0 := Lib.hid K0; have HK1 := Lib.hid K1; have HB0 := Lib.hid hB
  clear K0 K1 hB
  go_loopw [4] (fun i wr => ∃ k : Nat, i = .int .i64 k ∧ k ≤ 16 ∧ Hid (wr.heap[w.heap.size]? = some (.cells (arr (idL 0)) 23 (0, 0))) ∧ Hid (wr.heap[w.heap.size + 1]? = some (.cells (arr (idL k)) 23 (0, 0))) ∧ Below w.heap.size w wr) (fun i _ => 16 - (intOf i).toNat)
  case atStart => exact ⟨0, rfl, by omega, HK0.out, HK1.out, HB0.out⟩
  clear HK0 HK1 HB0
  obtain ⟨k, rfl, hk, HR0, H2, hB⟩ := hrel
  by_cases hlt : k < 16
  · have hco := bk_cell H2.out k
    rw [arr_at (by rw [idL_length]; omega)] at hco
    have hfo := bk_free H2.out k
    have hkm : (k : Int) % 256 = (k : Int) := by omega
    have hR1 : Hid ((wr.setCell ⟨w.heap.size + 1, k, none⟩ (.int .u8 k)).heap[w.heap.size]? = some (.cells (arr (idL 0)) 23 (0, 0))) := bk_far HR0.out (by show w.heap.size ≠ w.heap.size + 1; omega) _
    have hR3 : Hid ((wr.setCell ⟨w.heap.size + 1, k, none⟩ (.int .u8 k)).heap[w.heap.size + 1]? = some (.cells (arr (idL (k + 1))) 23 (0, 0))) := arr_bk H2.out k k
    have hB2 := hB.setCell (p := ⟨w.heap.size + 1, k, none⟩) (by show w.heap.size ≤ w.heap.size + 1; omega) (.int .u8 (k : Int))
    clear HR0 H2
    go_wp2
    go_roundw
    case rel => exact ⟨k + 1, by go_num, by omega, hR1, hR3, hB2⟩
    case measure => simp [intOf]; omega
  · obtain rfl : k = 16 := by omega
    have HK0 := Lib.hid HR0.out; have HK1 := Lib.hid (show wr.heap[w.heap.size + 1]? = some (.cells (arr (ordF l 0)) 23 (0, 0)) from H2.out); have HB0 := Lib.hid hB
    clear HR0 H2 hB
    go_wp2_with (first | fail)
    go_loopw [5] (fun i wr => ∃ k : Nat, i = .int .i64 k ∧ k ≤ 16 ∧ k ≤ n ∧ Hid (wr.heap[w.heap.size]? = some (.cells (arr (idL 0)) 23 (0, 0))) ∧ Hid (wr.heap[w.heap.size + 1]? = some (.cells (arr (ordF l k)) 23 (0, 0))) ∧ Below w.heap.size w wr) (fun i _ => 16 - (intOf i).toNat)
    case atStart => exact ⟨0, rfl, by omega, by omega, HK0.out, HK1.out, HB0.out⟩
    clear HK0 HK1 HB0
    obtain ⟨k, rfl, hk, hkn, HR0, H2, hB⟩ := hrel
    have hlen := ordF_length l k
    by_cases hlt : k < 16 ∧ k < n
    · obtain ⟨hl1, hl2⟩ := hlt
      have i1 : (k : Int) < 16 := by omega
      have i2 : (k : Int) < (n : Int) := by omega
      obtain ⟨b, off, rfl⟩ := HA.out (by omega)
      have hz : l[k]? = some (l.getD k 0) := by rw [List.getD_eq_getElem?_getD, List.getElem?_eq_getElem (by rw [HN.out]; exact hl2)]; rfl
      have hra := ((HR.out.below hB).at_ k (.int .u8 (l.getD k 0)) (by rw [List.getElem?_map, hz]; rfl))
      have hzb := HBL.out _ (List.mem_of_getElem? hz)
      obtain ⟨j, hj, hjI⟩ : ∃ j, j = ordJ l k ∧ l.getD k 0 % 16 = (j : Int) := ⟨_, rfl, by unfold ordJ; omega⟩
      have hj16 : j < 16 := by rw [hj]; exact ordJ_lt l k
      have HO : Hid (ordF l (k + 1) = swL (ordF l k) k j) := by show _ = _; rw [ordF, ← hj]
      clear hz hj
      generalize l.getD k 0 = z at *
      generalize ordF l k = q at *
      have hck := bk_cell H2.out k
      rw [arr_at (by omega)] at hck
      have hcj := bk_cell H2.out j
      rw [arr_at (by omega)] at hcj
      have hfk := bk_free H2.out k
      have hfj := bk_free H2.out j
      have ji : (j : Int) < 16 := by omega
      have HH2 := Lib.hid H2.out
      have K3 := arr_bk H2.out k (nth q j)
      have hc2 := bk_cell K3 j
      rw [arr_at (by rw [List.length_set]; omega)] at hc2
      have hf2 := bk_free K3 j
      have hB2 := (hB.setCell (p := ⟨w.heap.size + 1, k, none⟩) (by show w.heap.size ≤ w.heap.size + 1; omega) (.int .u8 (nth q j))).setCell (p := ⟨w.heap.size + 1, j, none⟩) (by show w.heap.size ≤ w.heap.size + 1; omega) (.int .u8 (nth q k))
      have hR1 : Hid (((wr.setCell ⟨w.heap.size + 1, k, none⟩ (.int .u8 (nth q j))).setCell ⟨w.heap.size + 1, j, none⟩ (.int .u8 (nth q k))).drew.heap[w.heap.size]? = some (.cells (arr (idL 0)) 23 (0, 0))) := bk_drew (bk_far (bk_far HR0.out (by show w.heap.size ≠ w.heap.size + 1; omega) _) (by show w.heap.size ≠ w.heap.size + 1; omega) _)
      have hR3 : Hid (((wr.setCell ⟨w.heap.size + 1, k, none⟩ (.int .u8 (nth q j))).setCell ⟨w.heap.size + 1, j, none⟩ (.int .u8 (nth q k))).drew.heap[w.heap.size + 1]? = some (.cells (arr (ordF l (k + 1))) 23 (0, 0))) := by rw [HO.out]; exact bk_drew (arr_bk K3 j _)
      clear H2 K3 HR0 HH2
      go_wp2_with (first | fail)
      go_region
      go_wp2
      go_roundw
      case rel => exact ⟨k + 1, by go_num, by omega, by omega, hR1, hR3, hB2.drew⟩
      case measure => simp [intOf]; omega
    · have hend : k = min 16 l.length := by rw [HN.out]; omega
      have HL : Hid (ordF l k = orderL l) := by show _ = _; rw [hend]; rfl
      have hi := arr_info (ordF_length l k)
      by_cases h16 : k < 16
      · have i1 : (k : Int) < 16 := by omega
        have i2 : ¬ ((k : Int) < (n : Int)) := by omega
        clear hend
        go_wp2_with (first | (refine wpList_load_row (by rfl) 23 _ (by rfl) (w.heap.size + 1) (by rfl) 23 _ (0, 0) _ H2.out Try.underlying23 rfl hi ?_) | (refine wpList_store_row (by rfl) 23 _ _ (by rfl) w.heap.size (arr (ordF l k)) (by rfl) (by rfl) 23 _ HR0.out hi (by rw [arr_size, arr_size, ordF_length, idL_length]) (arr_one _) ?_))
        refine end_c w.heap.size 23 rfl rfl rfl Try.underlying23 rfl ⟨_, setRow_heap _ _ _ _ _ _ HR0.out, hi, Ret.of (by rw [HL.out]) ?_⟩
        exact below_setRow hB (Nat.le_refl _) _
      · have i1 : ¬ ((k : Int) < 16) := by omega
        clear hend
        go_wp2_with (first | (refine wpList_load_row (by rfl) 23 _ (by rfl) (w.heap.size + 1) (by rfl) 23 _ (0, 0) _ H2.out Try.underlying23 rfl hi ?_) | (refine wpList_store_row (by rfl) 23 _ _ (by rfl) w.heap.size (arr (ordF l k)) (by rfl) (by rfl) 23 _ HR0.out hi (by rw [arr_size, arr_size, ordF_length, idL_length]) (arr_one _) ?_))
        refine end_c w.heap.size 23 rfl rfl rfl Try.underlying23 rfl ⟨_, setRow_heap _ _ _ _ _ _ HR0.out, hi, Ret.of (by rw [HL.out]) ?_⟩
        exact below_setRow hB (Nat.le_refl _) _
end Go.Proofs.Ytdpcmpfhjhbicaa
