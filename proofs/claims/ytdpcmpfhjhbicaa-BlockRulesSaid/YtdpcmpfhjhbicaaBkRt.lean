/- The document's Print. -/
import Derived.Test.YtdpcmpfhjhbicaaBkRs
import Derived.WalkSpells
import Derived.RegionTactic
import Derived.ChangeAlike
set_option linter.unusedVariables false
set_option linter.unusedSimpArgs false
namespace Go.Proofs.Ytdpcmpfhjhbicaa
open Go.RowKit Go.Viv

def digS : ByteArray := { data := #[48, 49, 50, 51, 52, 53, 54, 55, 56, 57, 65, 66, 67, 68, 69, 70] }
theorem dig_extract : ∀ m, m < 16 → (digS.extract m (m + 1)) = strOfNums [dch m] := by decide
theorem str_append (a b : List Int) : strOfNums a ++ strOfNums b = strOfNums (a ++ b) := by
  apply ByteArray.ext
  simp [strOfNums]
theorem slice_dig (m : Nat) (hm : m < 16) (w : World) : (Instr.slice 9 (.string { data := #[48, 49, 50, 51, 52, 53, 54, 55, 56, 57, 65, 66, 67, 68, 69, 70] }) (some (.int .u8 m)) (some (.int .u8 ((m : Int) + 1))) none).run Try.prog w = .ok (.string (digS.extract m (m + 1))) w := by
  have h := run_slice_string (P := Try.prog) (w := w) 9 digS .u8 .u8 (m : Int) ((m : Int) + 1) Try.underlying9 (by omega) (by omega) (by show (m : Int) + 1 ≤ 16; omega)
  rw [show (m : Int).toNat = m by omega, show ((m : Int) + 1).toNat = m + 1 by omega] at h
  exact h
set_option maxRecDepth 20000 in
set_option maxHeartbeats 4000000 in
theorem rPrint_bad {b : List Int} (hb : Arr16 b) (hc : checkB b = 290) (w : World) : Calls Try.prog 36 #[.agg (arr b)] w (Ret (printV b) w) := by
  have KO := bk_new w (.cells (arr b) 23)
  have hi := arr_info hb.len
  have hB := boxed w (.cells (arr b) 23)
  have HC := rCheck_calls hb (w.alloc (.cells (arr b) 23))
  have HV : Hid (printV b = .tuple #[.string { data := #[] }, .int .i64 290]) := by show _ = _; unfold printV printS; rw [hc]; rfl
  rw [hc] at HC
  have HC' := Lib.hid HC; clear HC hc
  go_enter Try.func36, Try.ntmps36
  go_wp2_with (first | (go_at_call 40; ((with_reducible refine HC'.out.mono ?_); rintro e w1 ⟨rfl, hb1⟩)) | (refine wpList_load_row (by rfl) 23 _ (by rfl) w.heap.size (by rfl) 23 _ (0, 0) _ KO Try.underlying23 rfl hi ?_))
  go_ret2
  exact Ret.of (by rw [HV.out]; rfl) (hB.trans (hb1.mono hB.size))
set_option maxRecDepth 20000 in
set_option maxHeartbeats 4000000 in
theorem rPrint_ok {b : List Int} (hb : Arr16 b) (hc : checkB b = 0) (w : World) : Calls Try.prog 36 #[.agg (arr b)] w (Ret (printV b) w) := by
  have KO := bk_new w (.cells (arr b) 23)
  have hi := arr_info hb.len
  have hB := boxed w (.cells (arr b) 23)
  have hr := Lib.hid (ruleOk hb hc)
  have HC := rCheck_calls hb (w.alloc (.cells (arr b) 23))
  have HV : Hid (printV b = .tuple #[.string (strOfNums (prL b 16)), .int .i64 0]) := by show _ = _; unfold printV printS; rw [if_pos hc, hc]
  rw [hc] at HC
  have HC' := Lib.hid HC; clear HC hc
  go_enter Try.func36, Try.ntmps36
  go_wp2_with (first | (go_at_call 40; ((with_reducible refine HC'.out.mono ?_); rintro e w1 ⟨rfl, hb1⟩; have HK1 := Lib.hid (bk_below KO hb1); have HB1 := Lib.hid (hB.trans (hb1.mono hB.size)))) | (refine wpList_load_row (by rfl) 23 _ (by rfl) w.heap.size (by rfl) 23 _ (0, 0) _ KO Try.underlying23 rfl hi ?_))
  clear KO hB hb1 hi
  go_loopw [5, 6] (fun v i wr => ∃ k : Nat, i = .int .i64 k ∧ k ≤ 16 ∧ v = .string (strOfNums (prL b k)) ∧ Hid (wr.heap[w.heap.size]? = some (.cells (arr b) 23 (0, 0))) ∧ Below w.heap.size w wr) (fun _ i _ => 16 - (intOf i).toNat)
  case atStart => exact ⟨0, rfl, by omega, rfl, HK1.out, HB1.out⟩
  clear HK1 HB1
  obtain ⟨k, rfl, hk, rfl, KW, hB⟩ := hrel
  by_cases hlt : k < 16
  · have hbd := hr.out.bd k hlt
    obtain ⟨m, hm⟩ := Int.eq_ofNat_of_zero_le hbd.1
    have hm16 : m < 16 := by omega
    have c1 := arr_cell KW.out (k := k) (by rw [hb.len]; exact hlt)
    rw [hm] at c1
    have k1 : (0 : Int) ≤ (k : Int) := by omega
    have k2 : (k : Int) < 16 := by omega
    have m1 : (0 : Int) ≤ (m : Int) := by omega
    have m2 : (m : Int) < 16 := by omega
    have HN : Hid (strOfNums (prL b k) ++ digS.extract m (m + 1) = strOfNums (prL b (k + 1))) := by
      show _ = _
      rw [dig_extract m hm16, str_append, prL, hm]; rfl
    have hsl := slice_dig m hm16
    have hwr : IntKind.u8.wrap ((m : Int) + 1) = (m : Int) + 1 := by rw [IntKind.wrap_u8]; omega
    have hsz : ¬ (9223372036854775807 < (strOfNums (prL b k)).size + (min (m + 1) digS.size - m)) := by rw [strOfNums_size, prL_length]; have : digS.size = 16 := rfl; omega
    clear hbd hm
    generalize prL b k = l at *
    go_wp2_with (first | fail)
    go_quiet (fail)
    go_wp2
    go_roundw
    case rel => exact ⟨k + 1, by go_num, by omega, by rw [← HN.out], bk_drewN KW.out _, hB.trans (bdrewN' _ _ hB.size)⟩
    case measure => simp [intOf]; omega
  · obtain rfl : k = 16 := by omega
    go_wp2
    go_ret2
    exact Ret.of (by rw [HV.out]; rfl) hB
theorem rPrint_calls {b : List Int} (hb : Arr16 b) (w : World) : Calls Try.prog 36 #[.agg (arr b)] w (Ret (printV b) w) := by
  rcases checkB_two b with hc | hc
  · exact rPrint_ok hb hc w
  · exact rPrint_bad hb hc w
end Go.Proofs.Ytdpcmpfhjhbicaa
