/- ring: Rows' errors; the document's Same, Check. -/
import Derived.Test.YtkldffpdlkmncaaRgC
import Derived.Test.YtkldffpdlkmncaaRgE
set_option linter.unusedVariables false
set_option linter.unusedSimpArgs false
namespace Go.Proofs.Ytkldffpdlkmncaa
open Go.RowKit Go.Viv

set_option maxRecDepth 20000 in
set_option maxHeartbeats 4000000 in
theorem rgRows_err {k W H t s E : Int} {p : Value} {w : World} (hA : ∀ w', Below w.heap.size w w' → Calls Try.prog 39 #[topoV k W H t s, p] w' (Ret (.int .i64 E) w')) (hE : E ≠ 0) :
    Calls Try.prog 12 #[topoV k W H t s, p] w (Ret (.tuple #[.slice none 0 0, .int .i64 E]) w) := by
  have KT := bk_new w (.cells #[.int .u8 k, .int .i64 W, .int .i64 H, .int .u8 t, .int .i64 s] 23)
  have hBw := Lib.hid (boxed w (.cells #[.int .u8 k, .int .i64 W, .int .i64 H, .int .u8 t, .int .i64 s] 23))
  have kt := bk_cell KT
  have hE1 : (E != 0) = true := bne_iff_ne.2 hE
  have HA := Lib.hid hA
  clear hA hE
  go_enter Try.func12, Try.ntmps12
  go_wp2_with (first | (go_at_call 39; ((with_reducible refine (HA.out _ hBw.out).mono ?_); rintro e w1 ⟨rfl, hb1⟩)))
  go_ret2
  exact Ret.of rfl (next hBw.out hb1)
set_option maxRecDepth 20000 in
set_option maxHeartbeats 4000000 in
theorem rgRows_pack {k t s St : Int} {W H g : Nat} {pk : Bool} {f : Nat → Nat → Int} {S : Nat → Prop} {w : World} (t0 : 0 ≤ t) (hk : checkE k W H t s = 0) (hF : Fld g ⟨W, H, St, pk, f⟩ S w) (hS : 2 < St) :
    Calls Try.prog 12 #[topoV k W H t s, .pointer (some ⟨g, 0, none⟩)] w (Ret (.tuple #[.slice none 0 0, .int .i64 132]) w) := by
  have KT := bk_new w (.cells #[.int .u8 k, .int .i64 W, .int .i64 H, .int .u8 t, .int .i64 s] 23)
  have hBw := Lib.hid (boxed w (.cells #[.int .u8 k, .int .i64 W, .int .i64 H, .int .u8 t, .int .i64 s] 23))
  have kt := bk_cell KT
  have o1 := hF.ok.w0; have o3 := hF.ok.h0
  have hA : ∀ w', Below w.heap.size w w' → Calls Try.prog 39 #[topoV k W H t s, .pointer (some ⟨g, 0, none⟩)] w' (Ret (.int .i64 0) w') := fun w' hb => by
    have := rgAsked_calls (k := k) (W := W) (H := H) (t := t) (s := s) t0 (hF.below hb)
    rwa [show rgE k W H t s ⟨W, H, St, pk, f⟩ = 0 by unfold rgE; rw [if_neg (by simp [hk]), if_neg (by show ¬ (_ ∨ _); simp at o1 o3; omega), if_neg (by simp)]] at this
  have hFS := fun w' (hb : Below w.heap.size w w') => States_calls (hF.below hb)
  have HA := Lib.hid hA; have HFS := Lib.hid hFS
  have hd : decide (2 < St) = true := decide_eq_true hS
  clear hA hF hk o1 o3 hFS hS
  go_enter Try.func12, Try.ntmps12
  go_wp2_with (first | (go_at_call 39; ((with_reducible refine (HA.out _ hBw.out).mono ?_); rintro e w1 ⟨rfl, hb1⟩; have hB2 := Lib.hid (next hBw.out hb1))) | (go_at_call 42; ((with_reducible refine (HFS.out _ hB2.out).mono ?_); rintro e w2 ⟨rfl, rfl⟩)))
  go_ret2
  exact Ret.of rfl hB2.out

/-- the document's Same of two frames -/
theorem rgSame_calls {W H W' H' : Int} {A A' : Option Addr} {n c n' c' : Nat} {la lb : List Int} {w : World} (ha : Rd w A (la.map (.int .u8))) (hla : la.length = n) (hb : Rd w A' (lb.map (.int .u8))) (hlb : lb.length = n') (ba : ∀ x ∈ la, 0 ≤ x ∧ x ≤ 255) (bb : ∀ x ∈ lb, 0 ≤ x ∧ x ≤ 255) :
    Calls Try.prog 13 #[.agg #[.int .i64 W, .int .i64 H, .slice A n c], .agg #[.int .i64 W', .int .i64 H', .slice A' n' c']] w (Ret (.bool (decide (W = W' ∧ H = H' ∧ la = lb))) w) := by
  have K1 := bk_alloc (bk_new w (.cells #[.int .i64 W, .int .i64 H, .slice A n c] 34)) (.cells #[.int .i64 W', .int .i64 H', .slice A' n' c'] 34)
  have K2 : ((w.alloc (.cells #[.int .i64 W, .int .i64 H, .slice A n c] 34)).alloc (.cells #[.int .i64 W', .int .i64 H', .slice A' n' c'] 34)).heap[w.heap.size + 1]? = some (.cells #[.int .i64 W', .int .i64 H', .slice A' n' c'] 34 (0, 0)) := bk_newn _ _ _ (by simp)
  have hBw : Below w.heap.size w ((w.alloc (.cells #[.int .i64 W, .int .i64 H, .slice A n c] 34)).alloc (.cells #[.int .i64 W', .int .i64 H', .slice A' n' c'] 34)) := (boxed _ _).alloc (by simp) _
  have k1 := bk_cell K1; have k2 := bk_cell K2
  have hsa := run_string_rd (P := Try.prog) (src := 32) (dst := 9) Try.underlying32 Try.underlying5 Try.underlying9 (c := c) (ha.below hBw) hla
  have hsb := run_string_rd (P := Try.prog) (src := 32) (dst := 9) Try.underlying32 Try.underlying5 Try.underlying9 (c := c') (hb.below hBw) hlb
  have HB := Lib.hid (beq_str ba bb)
  have hB := Lib.hid hBw
  clear hBw K1 K2 ha hb hla hlb ba bb
  obtain ⟨X, hX⟩ : ∃ X, decide (W = W' ∧ H = H' ∧ la = lb) = X := ⟨_, rfl⟩
  rw [hX]
  have HX := Lib.hid hX
  clear hX
  by_cases h1 : W = W'
  · by_cases h2 : H = H'
    · subst h1 h2
      have HD : Hid (((strOfNums la).toList == (strOfNums lb).toList) = X) := by show _ = _; rw [HB.out, ← HX.out]; simp
      clear HB HX
      go_enter Try.func13, Try.ntmps13
      go_wp2
      go_ret
      refine Ret.of ?_ hB.out
      show Value.bool _ = Value.bool _
      rw [HD.out]
    · have h2' : (H == H') = false := beq_eq_false_iff_ne.2 h2
      have HD : Hid (X = false) := by show _ = _; rw [← HX.out]; exact decide_eq_false (fun h => h2 h.2.1)
      subst h1
      clear h2 HB HX
      go_enter Try.func13, Try.ntmps13
      go_wp2
      go_ret
      exact Ret.of (by rw [HD.out]; rfl) hB.out
  · have h1' : (W == W') = false := beq_eq_false_iff_ne.2 h1
    have HD : Hid (X = false) := by show _ = _; rw [← HX.out]; exact decide_eq_false (fun h => h1 h.1)
    clear h1 HB HX
    go_enter Try.func13, Try.ntmps13
    go_wp2
    go_ret
    exact Ret.of (by rw [HD.out]; rfl) hB.out

set_option maxRecDepth 20000 in
set_option maxHeartbeats 2000000 in
theorem rgRCheck_calls (W H : Int) (A : Option Addr) (n c : Nat) (w : World) : Calls Try.prog 17 #[.agg #[.int .i64 W, .int .i64 H, .slice A n c]] w (Ret (.int .i64 (rgChE W H n)) w) := by
  have hc := bk_cell (bk_new w (.cells #[.int .i64 W, .int .i64 H, .slice A n c] 34))
  have hB := Lib.hid (boxed w (.cells #[.int .i64 W, .int .i64 H, .slice A n c] 34))
  by_cases hin : 1 ≤ W ∧ W ≤ 65536 ∧ 1 ≤ H ∧ H ≤ 65536
  · obtain ⟨a1, a2, a3, a4⟩ := hin
    have m1 : 0 < W * H := Int.mul_pos (by omega) (by omega)
    have m2 : W * H ≤ 65536 * 65536 := Int.mul_le_mul a2 a4 (by omega) (by omega)
    have m3 : 0 < (W + 2) * (H + 2) := Int.mul_pos (by omega) (by omega)
    have m4 : (W + 2) * (H + 2) ≤ 65538 * 65538 := Int.mul_le_mul (by omega) (by omega) (by omega) (by omega)
    have w1 : IntKind.i64.wrap (W * H) = W * H := by rw [IntKind.wrap_i64]; omega
    have w2 : IntKind.i64.wrap (W + 2) = W + 2 := by rw [IntKind.wrap_i64]; omega
    have w3 : IntKind.i64.wrap (H + 2) = H + 2 := by rw [IntKind.wrap_i64]; omega
    have w4 : IntKind.i64.wrap ((W + 2) * (H + 2)) = (W + 2) * (H + 2) := by rw [IntKind.wrap_i64]; omega
    go_enter Try.func17, Try.ntmps17
    go_wp2
    all_goals
      go_ret
      refine Ret.of ?_ hB.out
      show Value.int .i64 _ = _
      congr 1
      unfold rgChE
      generalize W * H = P at *
      generalize (W + 2) * (H + 2) = Q at *
      simp only [beq_iff_eq, beq_eq_false_iff_ne, ne_eq, bne_iff_ne, bne_eq_false_iff_eq, Bool.and_eq_true, Bool.or_eq_true, Bool.not_eq_true', Bool.not_eq_false', decide_eq_true_eq, decide_eq_false_iff_not, Bool.and_eq_false_iff, Bool.or_eq_false_iff] at *
      (repeat' split) <;> omega
  · have he : Hid (rgChE W H n = 140) := by
      show _ = _
      unfold rgChE
      rw [if_pos (by omega)]
    have hh : Hid (¬ (1 ≤ W ∧ W ≤ 65536 ∧ 1 ≤ H ∧ H ≤ 65536)) := hin
    clear hin
    go_enter Try.func17, Try.ntmps17
    go_wp2
    all_goals
      go_ret
      refine Ret.of ?_ hB.out
      show Value.int .i64 _ = _
      first
        | (rw [he.out]; done)
        | (exfalso; refine hh.out ?_; simp only [beq_iff_eq, beq_eq_false_iff_ne, ne_eq, bne_iff_ne, bne_eq_false_iff_eq, Bool.and_eq_true, Bool.or_eq_true, Bool.not_eq_true', Bool.not_eq_false', decide_eq_true_eq, decide_eq_false_iff_not, Bool.and_eq_false_iff, Bool.or_eq_false_iff] at *; omega)
end Go.Proofs.Ytkldffpdlkmncaa
