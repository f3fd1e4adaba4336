/- Print, and the document's. -/
import Derived.Test.YtdpcmpfhjhbicaaBkD
import Derived.Test.YtdpcmpfhjhbicaaB0
import Derived.Test.YtdpcmpfhjhbicaaFG
import Derived.BigQuiet
import Derived.Lib.SlBytesConst
import Derived.ArgAppend
import Derived.Deep.QuietTactic
set_option linter.unusedVariables false
set_option linter.unusedSimpArgs false
namespace Go.Proofs.Ytdpcmpfhjhbicaa
open Go.RowKit Go.Viv

/-- the first k digits of a rule, behind its letter -/
def prL (b : List Int) : Nat → List Int
  | 0 => [77]
  | k + 1 => prL b k ++ [dch (nth b k).toNat]
theorem prL_length (b : List Int) (k : Nat) : (prL b k).length = k + 1 := by
  induction k with
  | zero => rfl
  | succ k ih => simp [prL, ih]
def printS (b : List Int) : ByteArray := if checkB b = 0 then strOfNums (prL b 16) else { data := #[] }
def printV (b : List Int) : Value := .tuple #[.string (printS b), .int .i64 (checkB b)]
theorem dch_bd (n : Nat) (h : n < 16) : 48 ≤ dch n ∧ dch n ≤ 70 := by unfold dch; split <;> omega

set_option maxRecDepth 20000 in
set_option maxHeartbeats 1000000 in
theorem Print_bad {b : List Int} (hb : Arr16 b) (hc : checkB b = 290) (w : World) : Calls Try.prog 16 #[.agg (arr b)] w (Ret (printV b) w) := by
  have KO := bk_new w (.cells (arr b) 23)
  have hi := arr_info hb.len
  have hB := boxed w (.cells (arr b) 23)
  have HC := bCheck_calls hb (w.alloc (.cells (arr b) 23))
  have HV : Hid (printV b = .tuple #[.string { data := #[] }, .int .i64 290]) := by show _ = _; unfold printV printS; rw [hc]; rfl
  rw [hc] at HC
  have HC' := Lib.hid HC; clear HC hc
  go_enter Try.func16, Try.ntmps16
  go_wp2_with (first | (go_at_call 17; ((with_reducible refine HC'.out.mono ?_); rintro e w1 ⟨rfl, hb1⟩)) | (refine wpList_load_row (by rfl) 23 _ (by rfl) w.heap.size (by rfl) 23 _ (0, 0) _ KO Try.underlying23 rfl hi ?_))
  go_ret2
  exact Ret.of (by rw [HV.out]; rfl) (hB.trans (hb1.mono hB.size))

theorem own_mono' {w : World} {base base' size n : Nat} {e : TypeId} {v : Value} {xs : List Value} (h : w.ownsRow base e size v n xs) (hb : base' ≤ base) : w.ownsRow base' e size v n xs := by
  refine ⟨h.1, ?_⟩
  rcases h.2 with h0 | ⟨g, cap, cur, hv, hbg, r⟩
  · exact .inl h0
  · exact .inr ⟨g, cap, cur, hv, by omega, r⟩
theorem single_at {w : World} {g : Nat} {v : Value} (hc : w.cell? ⟨g, 0, none⟩ = some v) : ∀ j u, [v][j]? = some u → w.cell? ((⟨g, 0, none⟩ : Addr).add j) = some u := by
  intro j u hu
  cases j with
  | zero => simp at hu; subst hu; simpa [Addr.add] using hc
  | succ j => simp at hu
theorem single_opt {w : World} {g : Nat} {v : Value} (hc : w.cell? ⟨g, 0, none⟩ = some v) : ∀ b, some (⟨g, 0, none⟩ : Addr) = some b → ∀ j u, [v][j]? = some u → w.cell? (b.add j) = some u := by
  intro b hb j u hu
  cases hb
  exact single_at hc j u hu
/-- the bytes on their way: the letter alone, in a row that is marked; then a row of one's own -/
def PrSt (g1 B : Nat) (b : List Int) (k : Nat) (v : Value) (w : World) : Prop :=
  (k = 0 ∧ v = .slice (some ⟨g1, 0, none⟩) 1 1 ∧ w.cell? ⟨g1, 0, none⟩ = some (.int .u8 77)) ∨ (0 < k ∧ w.ownsRow B 5 1 v (k + 1) ((prL b k).map (.int .u8)))
set_option maxRecDepth 20000 in
set_option maxHeartbeats 2000000 in
theorem Print_ok {b : List Int} (hb : Arr16 b) (hc : checkB b = 0) (w : World) : Calls Try.prog 16 #[.agg (arr b)] w (Ret (printV b) w) := by
  have KO := bk_new w (.cells (arr b) 23)
  have hi := arr_info hb.len
  have hB := boxed w (.cells (arr b) 23)
  have hr := ruleOk hb hc
  have HC := bCheck_calls hb (w.alloc (.cells (arr b) 23))
  have HV : Hid (printV b = .tuple #[.string (strOfNums (prL b 16)), .int .i64 0]) := by show _ = _; unfold printV printS; rw [if_pos hc, hc]
  rw [hc] at HC
  have HC' := Lib.hid HC; clear HC hc
  have hcv := fun (w : World) (C : Array Value) (n c : Nat) => Lib.run_convert_bytes_const (P := Try.prog) w 44 5 C n c Try.underlying44 Try.underlying5
  go_enter Try.func16, Try.ntmps16
  go_wp2_with (first | (go_at_call 17; ((with_reducible refine HC'.out.mono ?_); rintro e w1 ⟨rfl, hb1⟩; have KO1 := bk_below KO hb1; have hB1 := hB.trans (hb1.mono hB.size))) | (refine wpList_load_row (by rfl) 23 _ (by rfl) w.heap.size (by rfl) 23 _ (0, 0) _ KO Try.underlying23 rfl hi ?_) | (refine wpList_load_row (by rfl) 23 _ (by rfl) w.heap.size (by rfl) 23 _ (0, 0) _ (bk_alloc KO1 _) Try.underlying23 rfl hi ?_))
  have KS : (w1.alloc (.cells #[.int .u8 77] 5 (1, 2))).heap[w1.heap.size]? = some (.cells #[.int .u8 77] 5 (1, 2)) := bk_new w1 _
  have hcS : (w1.alloc (.cells #[.int .u8 77] 5 (1, 2))).cell? ⟨w1.heap.size, 0, none⟩ = some (.int .u8 77) := cell_of_row _ _ 0 _ _ _ KS
  have hB2 := hB1.alloc hB1.size (.cells #[.int .u8 77] 5 (1, 2))
  generalize w1.alloc (.cells #[.int .u8 77] 5 (1, 2)) = W0 at *
  have hg1 : Hid (w.heap.size ≤ w1.heap.size) := hB1.size
  generalize w1.heap.size = g1 at *
  clear KO KO1 hi hB hb1 hB1 KS hcv
  go_loopw [5, 16] (fun v i wr => ∃ k : Nat, i = .int .i64 k ∧ k ≤ 16 ∧ Hid (PrSt g1 w.heap.size b k v wr) ∧ Below w.heap.size w wr) (fun _ i _ => 16 - (intOf i).toNat)
  case atStart => exact ⟨0, rfl, by omega, .inl ⟨rfl, rfl, hcS⟩, hB2⟩
  clear hcS hB2
  obtain ⟨k, rfl, hk, HO, hB⟩ := hrel
  by_cases hlt : k < 16
  · have hix := fun w => arr_index hb.len k hlt .i64 w
    have hbd := hr.bd k hlt
    obtain ⟨m, hm⟩ := Int.eq_ofNat_of_zero_le hbd.1
    have hm16 : m < 16 := by omega
    have hdx := fun w => dig_index m hm16 w
    have hdb := dch_bd m hm16
    have HN : Hid ((prL b (k + 1)).map (Value.int .u8) = (prL b k).map (Value.int .u8) ++ [.int .u8 (dch m)]) := by show _ = _; simp [prL, hm]
    simp only [hm] at hix
    generalize dch m = d at *
    have KD := Lib.hid (bk_new wr (.cells #[.int .u8 d] 5))
    have HB2 := Lib.hid (hB.alloc hB.size (.cells #[.int .u8 d] 5))
    have hs := hB.size
    rcases HO.out with ⟨rfl, rfl, hc1⟩ | ⟨hk0, hown⟩
    · obtain ⟨i0, hi0, hz0, hz1, hz2⟩ := info_parts u8info
      have hix0 : ∀ w, (Instr.index 23 (.agg (arr b)) (.int .i64 0)).run Try.prog w = .ok (.int .u8 (m : Int)) w := hix
      have hc2 := Lib.hid (cell_later (boxed wr (.cells #[.int .u8 d] 5)) hc1)
      clear hbd hm HO hB hc1
      go_wp2_with (at_builtin; (refine wpList_append_grows _ rfl (.tmp 19) (.tmp 22) 44 (by rfl) 5 i0 _ 1 1 Try.underlying44 hi0 hz0 hz1 hz2 rfl (by decide) (some ⟨g1, 0, none⟩) 1 1 [.int .u8 77] (by rfl) (by simp) rfl (single_opt hc2.out) ⟨wr.heap.size, 0, none⟩ 1 1 [.int .u8 d] (by rfl) rfl (single_at (bk_cell KD.out 0)) (by simp [Value.oneCell']) (by omega) (by decide) (by decide) ?_); intro v' w3 hown3 hgr3; have HO3 := Lib.hid (own_mono' hown3 (show w.heap.size ≤ _ from HB2.out.size)); have HB3 := Lib.hid (HB2.out.trans ((below_of_nil (a := 0) (b := 0) hgr3).mono HB2.out.size)); clear hown3 hgr3)
      go_roundw
      case rel => exact ⟨1, rfl, by omega, .inr ⟨by omega, by rw [HN.out]; exact HO3.out⟩, HB3.out⟩
      case measure => simp [intOf]
    · have HO2 := Lib.hid (own_below hown (boxed wr (.cells #[.int .u8 d] 5)))
      clear hbd hm HO hB hown
      go_wp2_with (at_builtin; (refine app_own rfl (.tmp 19) (.tmp 22) 44 rfl w.heap.size 5 _ 1 1 Try.underlying44 u8info rfl (by decide) (by decide) _ (k + 1) _ (by rfl) HO2.out (by omega) wr.heap.size 5 #[.int .u8 d] (by rfl) KD.out rfl (by simp [Value.oneCell']) (by simp; omega) ?_); intro v' w3 hown3 hb3 hgr3; have HO3 := Lib.hid hown3; have HB3 := Lib.hid (HB2.out.trans hb3); clear hown3 hb3 hgr3)
      go_roundw
      case rel => exact ⟨k + 1, by go_num, by omega, .inr ⟨by omega, by rw [HN.out]; exact HO3.out⟩, HB3.out⟩
      case measure => simp [intOf]; omega
  · obtain rfl : k = 16 := by omega
    have hown := (HO.out.resolve_left (fun h => by omega)).2
    obtain ⟨A, c, rfl⟩ := own_slice hown
    have hst := run_string_rd (P := Try.prog) (w := wr) (src := 44) (dst := 9) (e := 5) Try.underlying44 Try.underlying5 Try.underlying9 (A := A) (n := 17) (c := c) (l := prL b 16) (Rd.of_own hown) (prL_length b 16)
    go_wp2
    go_ret2
    exact Ret.of (by rw [HV.out]; rfl) hB
theorem Print_calls {b : List Int} (hb : Arr16 b) (w : World) : Calls Try.prog 16 #[.agg (arr b)] w (Ret (printV b) w) := by
  rcases checkB_two b with hc | hc
  · exact Print_ok hb hc w
  · exact Print_bad hb hc w
end Go.Proofs.Ytdpcmpfhjhbicaa
