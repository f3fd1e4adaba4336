/- What is wrong with a run: the document's answer (Asked). -/
import Derived.Test.YtdpcmpfhjhbicaaBkRq
import Derived.Test.YtdpcmpfhjhbicaaBkF
import Derived.BigQuiet
import Derived.Deep.QuietTactic
set_option linter.unusedVariables false
set_option linter.unusedSimpArgs false
namespace Go.Proofs.Ytdpcmpfhjhbicaa
open Go.RowKit Go.Viv

theorem bdrewN2' (w : World) (n : Nat) {B : Nat} (hB : B ≤ w.heap.size) : Below B w (w.drewN n) := ⟨rfl, rfl, rfl, Nat.le_refl _, fun _ _ => rfl⟩
section
variable {b : List Int} {k W H t s gen n : Int} {D : FD} {w : World}
set_option maxRecDepth 20000 in
set_option maxHeartbeats 4000000 in
theorem rAsk_nil (hb : Arr16 b) : Calls Try.prog 26 #[.agg (arr b), topoV k W H t s, .pointer none, .int .i64 gen, .int .i64 n] w (Ret (.int .i64 1) w) := by
  have KO := Lib.hid (askW_K (b := b) (k := k) (W := W) (H := H) (t := t) (s := s) (w := w))
  have hB := Lib.hid (askW_B (b := b) (k := k) (W := W) (H := H) (t := t) (s := s) (w := w))
  have CT := Lib.hid (fun w => rTurns_calls hb w)
  have hi := arr_info hb.len
  unfold askW at KO hB
  go_enter Try.func26, Try.ntmps26
  go_wp2_with (first | (go_at_call 37; ((with_reducible refine (CT.out _).mono ?_); rintro e w1 ⟨rfl, hb1⟩)) | (refine wpList_load_row (by rfl) 23 _ (by rfl) w.heap.size (by rfl) 23 _ (0, 0) _ KO.out Try.underlying23 rfl hi ?_))
  go_ret
  exact Ret.of rfl (next hB.out hb1)

set_option maxRecDepth 20000 in
set_option maxHeartbeats 8000000 in
theorem rAsk_calls {q cb : Nat} (hb : Arr16 b) (t0 : 0 ≤ t) (s0 : -9223372036854775808 ≤ s) (hF : RF q cb D w) (hok : D.Ok) (n0 : -9223372036854775808 ≤ n) (n1 : n ≤ 9223372036854775807) (g0 : -9223372036854775808 ≤ gen) (g1 : gen ≤ 9223372036854775807) :
    Calls Try.prog 26 #[.agg (arr b), topoV k W H t s, .pointer (some ⟨q, 0, none⟩), .int .i64 gen, .int .i64 n] w (Ret (.int .i64 (askE b k W H t s D gen n)) w) := by
  have KO := Lib.hid (askW_K (b := b) (k := k) (W := W) (H := H) (t := t) (s := s) (w := w))
  have KT := Lib.hid (askW_T (b := b) (k := k) (W := W) (H := H) (t := t) (s := s) (w := w))
  have hB := Lib.hid (askW_B (b := b) (k := k) (W := W) (H := H) (t := t) (s := s) (w := w))
  have HF := Lib.hid (hF.below hB.out)
  have CT := Lib.hid (fun w => rTurns_calls hb w)
  have CC := Lib.hid (fun w => rCheck_calls hb w)
  have CK := Lib.hid (fun w => rCheckT k W H t s w t0 s0)
  have hi := arr_info hb.len
  unfold askW at KO hB KT HF
  have KQ := HF.out.blk
  clear hF
  rcases checkB_two b with h1 | h1
  rotate_left
  · have HA : Hid (askE b k W H t s D gen n = 290) := by show _ = _; unfold askE; rw [if_pos (by omega)]
    have e1 : (checkB b != 0) = true := by simp [h1]
    clear h1 hok
    generalize checkB b = cB at *
    go_enter Try.func26, Try.ntmps26
    go_wp2_with (first | (go_at_call 37; ((with_reducible refine (CT.out _).mono ?_); rintro e w1 ⟨rfl, hb1⟩; have KO1 := bk_below KO.out hb1; have hB1 := next hB.out hb1)) | (refine wpList_load_row (by rfl) 23 _ (by rfl) w.heap.size (by rfl) 23 _ (0, 0) _ KO.out Try.underlying23 rfl hi ?_) | (refine wpList_load_row (by rfl) 23 _ (by rfl) w.heap.size (by rfl) 23 _ (0, 0) _ KO1 Try.underlying23 rfl hi ?_) | (go_at_call 40; ((with_reducible refine (CC.out _).mono ?_); rintro e w2 ⟨rfl, hb2⟩; have KT2 := bk_cell (bk_below (bk_below KT.out hb1) hb2); have KT2' := bk_below (bk_below KT.out hb1) hb2; have hB2 := next hB1 hb2)) | (go_at_call 51; ((with_reducible refine (CK.out _).mono ?_); rintro e w3 ⟨rfl, hb3⟩; have KT3 := bk_cell (bk_below KT2' hb3); have hB3 := next hB2 hb3; have KQ3 := bk_cell (bk_below (bk_below (bk_below KQ hb1) hb2) hb3); clear KT2)))
    all_goals
      go_ret
      refine Ret.of ?_ (by first | exact hB3 | exact hB2)
      rw [HA.out]
      simp only [bne_iff_ne, beq_iff_eq, bne_eq_false_iff_eq, beq_eq_false_iff_ne, ne_eq] at *
      all_goals first | rfl | (exfalso; omega) | (repeat' split <;> first | rfl | (exfalso; omega))
  have e1 : (checkB b != 0) = false := by simp [h1]
  by_cases h2 : checkE k W H t s = 0
  rotate_left
  · have HA : Hid (askE b k W H t s D gen n = 9) := by show _ = _; unfold askE gridE; rw [if_neg (by omega), if_pos h2, if_pos (by decide)]
    have e2 : (checkE k W H t s != 0) = true := by simp [h2]
    clear h1 h2 hok
    generalize checkB b = cB at *
    generalize checkE k W H t s = cE at *
    go_enter Try.func26, Try.ntmps26
    go_wp2_with (first | (go_at_call 37; ((with_reducible refine (CT.out _).mono ?_); rintro e w1 ⟨rfl, hb1⟩; have KO1 := bk_below KO.out hb1; have hB1 := next hB.out hb1)) | (refine wpList_load_row (by rfl) 23 _ (by rfl) w.heap.size (by rfl) 23 _ (0, 0) _ KO.out Try.underlying23 rfl hi ?_) | (refine wpList_load_row (by rfl) 23 _ (by rfl) w.heap.size (by rfl) 23 _ (0, 0) _ KO1 Try.underlying23 rfl hi ?_) | (go_at_call 40; ((with_reducible refine (CC.out _).mono ?_); rintro e w2 ⟨rfl, hb2⟩; have KT2 := bk_cell (bk_below (bk_below KT.out hb1) hb2); have KT2' := bk_below (bk_below KT.out hb1) hb2; have hB2 := next hB1 hb2)) | (go_at_call 51; ((with_reducible refine (CK.out _).mono ?_); rintro e w3 ⟨rfl, hb3⟩; have KT3 := bk_cell (bk_below KT2' hb3); have hB3 := next hB2 hb3; have KQ3 := bk_cell (bk_below (bk_below (bk_below KQ hb1) hb2) hb3); clear KT2)))
    all_goals
      go_ret
      refine Ret.of ?_ (by first | exact hB3 | exact hB2)
      rw [HA.out]
      simp only [bne_iff_ne, beq_iff_eq, bne_eq_false_iff_eq, beq_eq_false_iff_ne, ne_eq] at *
      all_goals first | rfl | (exfalso; omega) | (repeat' split <;> first | rfl | (exfalso; omega))
  have e2 : (checkE k W H t s != 0) = false := by simp [h2]
  have ok := topoOk_of t0 h2
  have k1 := ok.k1; have k5 := ok.k5; have w0 := ok.w0; have w1' := ok.w1; have hh0 := ok.h0; have hh1 := ok.h1
  have ob1 := hok.w0; have ob2 := hok.w1; have ob3 := hok.h0; have ob4 := hok.h1
  by_cases h3 : gridE k W H t s = 0
  rotate_left
  · have HA : Hid (askE b k W H t s D gen n = if k ≠ 1 ∧ k ≠ 2 then 40 else if W = 0 ∨ H = 0 then 42 else 291) := by
      show _ = _
      unfold askE; rw [if_neg (by omega), if_pos h3]
      unfold gridE at h3 ⊢
      rw [if_neg (by omega)] at h3 ⊢
      split
      · rfl
      · rename_i c1
        rw [if_neg c1] at h3
        split
        · rfl
        · rename_i c2
          rw [if_neg c2] at h3
          split
          · rfl
          · rename_i c3; rw [if_neg c3] at h3; exact absurd rfl h3
    have h3' : ¬ (k ≠ 1 ∧ k ≠ 2) → ¬ (W = 0 ∨ H = 0) → ¬ (W % 2 = 0 ∧ H % 2 = 0 ∧ s % 2 = 0) := fun c1 c2 c3 => h3 (by unfold gridE; rw [if_neg (by omega), if_neg c1, if_neg c2, if_neg (by omega)])
    have ts := tmod2 s
    have h4 : Hid (¬ (k ≠ 1 ∧ k ≠ 2) → ¬ (W = 0 ∨ H = 0) → ¬ (W % 2 = 0 ∧ H % 2 = 0 ∧ s % 2 = 0)) := h3'
    clear h1 h2 h3 h3' hok ok
    generalize checkB b = cB at *
    generalize checkE k W H t s = cE at *
    go_enter Try.func26, Try.ntmps26
    go_wp2_with (first | (go_at_call 37; ((with_reducible refine (CT.out _).mono ?_); rintro e w1 ⟨rfl, hb1⟩; have KO1 := bk_below KO.out hb1; have hB1 := next hB.out hb1)) | (refine wpList_load_row (by rfl) 23 _ (by rfl) w.heap.size (by rfl) 23 _ (0, 0) _ KO.out Try.underlying23 rfl hi ?_) | (refine wpList_load_row (by rfl) 23 _ (by rfl) w.heap.size (by rfl) 23 _ (0, 0) _ KO1 Try.underlying23 rfl hi ?_) | (go_at_call 40; ((with_reducible refine (CC.out _).mono ?_); rintro e w2 ⟨rfl, hb2⟩; have KT2 := bk_cell (bk_below (bk_below KT.out hb1) hb2); have KT2' := bk_below (bk_below KT.out hb1) hb2; have hB2 := next hB1 hb2)) | (go_at_call 51; ((with_reducible refine (CK.out _).mono ?_); rintro e w3 ⟨rfl, hb3⟩; have KT3 := bk_cell (bk_below KT2' hb3); have hB3 := next hB2 hb3; have KQ3 := bk_cell (bk_below (bk_below (bk_below KQ hb1) hb2) hb3); clear KT2)))
    all_goals
      try simp only [bne_iff_ne, beq_iff_eq, bne_eq_false_iff_eq, beq_eq_false_iff_ne, ne_eq] at *
      first
        | (exfalso; exact h4.out (by omega) (by omega) ⟨by omega, by omega, by omega⟩)
        | (go_ret; refine Ret.of ?_ (by exact hB3); rw [HA.out]; (repeat' split); all_goals first | rfl | (exfalso; omega))
  have G := gridOk_of h3
  have gw := G.w0; have gh := G.h0; have gw2 := G.w2; have gh2 := G.h2
  have ts : (s.tmod 2 != 0) = false := by rw [tmod2]; simp [G.s2]
  have hW0 : (W == 0) = false := beq_eq_false_iff_ne.2 gw
  have hH0 : (H == 0) = false := beq_eq_false_iff_ne.2 gh
  have hA0 : askE b k W H t s D gen n = if gen < 0 then 2 else if 1125899906842624 < gen then 5 else if W ≠ D.W ∨ H ≠ D.H then 21 else if 2 < D.St then 132
    else if spanE gen n ≠ 0 then spanE gen n else if n < 0 ∧ turnsB b = false then 292 else if 67108864 / (W * H) < n ∨ 67108864 / (W * H) < -n then 4 else 0 := by
    unfold askE; rw [if_neg (by omega), if_neg (by omega)]
  have HK := Lib.hid G.k1
  have m1 := mul_bd (W := W) (H := H) (by omega) (by omega) (by omega) (by omega)
  clear h2 h3 hok ok G
  generalize hcb : checkB b = cB at *
  generalize hce : checkE k W H t s = cE at *
  clear hcb hce
  by_cases c1 : gen < 0
  · have HA : Hid (askE b k W H t s D gen n = 2) := by show _ = _; rw [hA0, if_pos c1]
    clear hA0
    rcases HK.out with rfl | rfl
    all_goals
      go_enter Try.func26, Try.ntmps26
      go_wp2_with (first | (go_at_call 37; ((with_reducible refine (CT.out _).mono ?_); rintro e w1 ⟨rfl, hb1⟩; have KO1 := bk_below KO.out hb1; have hB1 := next hB.out hb1)) | (refine wpList_load_row (by rfl) 23 _ (by rfl) w.heap.size (by rfl) 23 _ (0, 0) _ KO.out Try.underlying23 rfl hi ?_) | (refine wpList_load_row (by rfl) 23 _ (by rfl) w.heap.size (by rfl) 23 _ (0, 0) _ KO1 Try.underlying23 rfl hi ?_) | (go_at_call 40; ((with_reducible refine (CC.out _).mono ?_); rintro e w2 ⟨rfl, hb2⟩; have KT2 := bk_cell (bk_below (bk_below KT.out hb1) hb2); have KT2' := bk_below (bk_below KT.out hb1) hb2; have hB2 := next hB1 hb2)) | (go_at_call 51; ((with_reducible refine (CK.out _).mono ?_); rintro e w3 ⟨rfl, hb3⟩; have KT3 := bk_cell (bk_below KT2' hb3); have hB3 := next hB2 hb3; have KQ3 := bk_cell (bk_below (bk_below (bk_below KQ hb1) hb2) hb3); clear KT2)))
      go_ret
      exact Ret.of (by rw [HA.out]; rfl) hB3
  by_cases c2 : 1125899906842624 < gen
  · have HA : Hid (askE b k W H t s D gen n = 5) := by show _ = _; rw [hA0, if_neg c1, if_pos c2]
    clear hA0
    rcases HK.out with rfl | rfl
    all_goals
      go_enter Try.func26, Try.ntmps26
      go_wp2_with (first | (go_at_call 37; ((with_reducible refine (CT.out _).mono ?_); rintro e w1 ⟨rfl, hb1⟩; have KO1 := bk_below KO.out hb1; have hB1 := next hB.out hb1)) | (refine wpList_load_row (by rfl) 23 _ (by rfl) w.heap.size (by rfl) 23 _ (0, 0) _ KO.out Try.underlying23 rfl hi ?_) | (refine wpList_load_row (by rfl) 23 _ (by rfl) w.heap.size (by rfl) 23 _ (0, 0) _ KO1 Try.underlying23 rfl hi ?_) | (go_at_call 40; ((with_reducible refine (CC.out _).mono ?_); rintro e w2 ⟨rfl, hb2⟩; have KT2 := bk_cell (bk_below (bk_below KT.out hb1) hb2); have KT2' := bk_below (bk_below KT.out hb1) hb2; have hB2 := next hB1 hb2)) | (go_at_call 51; ((with_reducible refine (CK.out _).mono ?_); rintro e w3 ⟨rfl, hb3⟩; have KT3 := bk_cell (bk_below KT2' hb3); have hB3 := next hB2 hb3; have KQ3 := bk_cell (bk_below (bk_below (bk_below KQ hb1) hb2) hb3); clear KT2)))
      go_ret
      exact Ret.of (by rw [HA.out]; rfl) hB3
  rw [if_neg c1, if_neg c2] at hA0
  by_cases c3 : W = D.W
  rotate_left
  · have HA : Hid (askE b k W H t s D gen n = 21) := by show _ = _; rw [hA0, if_pos (.inl c3)]
    have hne : (W != (D.W : Int)) = true := bne_iff_ne.2 c3
    clear hA0
    rcases HK.out with rfl | rfl
    all_goals
      go_enter Try.func26, Try.ntmps26
      go_wp2_with (first | (go_at_call 37; ((with_reducible refine (CT.out _).mono ?_); rintro e w1 ⟨rfl, hb1⟩; have KO1 := bk_below KO.out hb1; have hB1 := next hB.out hb1)) | (refine wpList_load_row (by rfl) 23 _ (by rfl) w.heap.size (by rfl) 23 _ (0, 0) _ KO.out Try.underlying23 rfl hi ?_) | (refine wpList_load_row (by rfl) 23 _ (by rfl) w.heap.size (by rfl) 23 _ (0, 0) _ KO1 Try.underlying23 rfl hi ?_) | (go_at_call 40; ((with_reducible refine (CC.out _).mono ?_); rintro e w2 ⟨rfl, hb2⟩; have KT2 := bk_cell (bk_below (bk_below KT.out hb1) hb2); have KT2' := bk_below (bk_below KT.out hb1) hb2; have hB2 := next hB1 hb2)) | (go_at_call 51; ((with_reducible refine (CK.out _).mono ?_); rintro e w3 ⟨rfl, hb3⟩; have KT3 := bk_cell (bk_below KT2' hb3); have hB3 := next hB2 hb3; have KQ3 := bk_cell (bk_below (bk_below (bk_below KQ hb1) hb2) hb3); clear KT2)))
      go_quiet (fail)
      go_wp2
      go_ret
      exact Ret.of (by rw [HA.out]; rfl) (hB3.trans (bdrewN2' _ _ hB3.size))
  have hne : (W != (D.W : Int)) = false := by simp [c3]
  by_cases c4 : H = D.H
  rotate_left
  · have HA : Hid (askE b k W H t s D gen n = 21) := by show _ = _; rw [hA0, if_pos (.inr c4)]
    have hne2 : (H != (D.H : Int)) = true := bne_iff_ne.2 c4
    clear hA0 c3
    rcases HK.out with rfl | rfl
    all_goals
      go_enter Try.func26, Try.ntmps26
      go_wp2_with (first | (go_at_call 37; ((with_reducible refine (CT.out _).mono ?_); rintro e w1 ⟨rfl, hb1⟩; have KO1 := bk_below KO.out hb1; have hB1 := next hB.out hb1)) | (refine wpList_load_row (by rfl) 23 _ (by rfl) w.heap.size (by rfl) 23 _ (0, 0) _ KO.out Try.underlying23 rfl hi ?_) | (refine wpList_load_row (by rfl) 23 _ (by rfl) w.heap.size (by rfl) 23 _ (0, 0) _ KO1 Try.underlying23 rfl hi ?_) | (go_at_call 40; ((with_reducible refine (CC.out _).mono ?_); rintro e w2 ⟨rfl, hb2⟩; have KT2 := bk_cell (bk_below (bk_below KT.out hb1) hb2); have KT2' := bk_below (bk_below KT.out hb1) hb2; have hB2 := next hB1 hb2)) | (go_at_call 51; ((with_reducible refine (CK.out _).mono ?_); rintro e w3 ⟨rfl, hb3⟩; have KT3 := bk_cell (bk_below KT2' hb3); have hB3 := next hB2 hb3; have KQ3 := bk_cell (bk_below (bk_below (bk_below KQ hb1) hb2) hb3); clear KT2)))
      go_quiet (fail)
      go_wp2
      go_ret
      exact Ret.of (by rw [HA.out]; rfl) (hB3.trans (bdrewN2' _ _ hB3.size))
  have hne2 : (H != (D.H : Int)) = false := by simp [c4]
  rw [if_neg (by omega)] at hA0
  have HA0 := Lib.hid hA0
  clear c3 c4 hA0
  rcases HK.out with rfl | rfl
  all_goals
    go_enter Try.func26, Try.ntmps26
    go_wp2_with (first | (go_at_call 37; ((with_reducible refine (CT.out _).mono ?_); rintro e w1 ⟨rfl, hb1⟩; have KO1 := bk_below KO.out hb1; have hB1 := next hB.out hb1)) | (refine wpList_load_row (by rfl) 23 _ (by rfl) w.heap.size (by rfl) 23 _ (0, 0) _ KO.out Try.underlying23 rfl hi ?_) | (refine wpList_load_row (by rfl) 23 _ (by rfl) w.heap.size (by rfl) 23 _ (0, 0) _ KO1 Try.underlying23 rfl hi ?_) | (go_at_call 40; ((with_reducible refine (CC.out _).mono ?_); rintro e w2 ⟨rfl, hb2⟩; have KT2 := bk_cell (bk_below (bk_below KT.out hb1) hb2); have KT2' := bk_below (bk_below KT.out hb1) hb2; have hB2 := next hB1 hb2)) | (go_at_call 51; ((with_reducible refine (CK.out _).mono ?_); rintro e w3 ⟨rfl, hb3⟩; have KT3 := bk_cell (bk_below KT2' hb3); have hB3 := next hB2 hb3; have KQ3 := bk_cell (bk_below (bk_below (bk_below KQ hb1) hb2) hb3); clear KT2)))
    go_quiet (fail)
    have KT4 := bk_cell (bk_drewN (bk_below KT2' hb3) nq)
    have KQ4 := bk_cell (bk_drewN (bk_below (bk_below (bk_below KQ hb1) hb2) hb3) nq)
    have hB4 := hB3.trans (bdrewN2' w3 nq hB3.size)
    generalize w3.drewN nq = W3 at *
    go_wp2
    all_goals
      go_ret
      refine Ret.of ?_ hB4
      rw [HA0.out]
      unfold spanE
      simp only [bne_iff_ne, beq_iff_eq, bne_eq_false_iff_eq, beq_eq_false_iff_ne, ne_eq, Bool.not_eq_true', Bool.not_eq_false'] at *
      (repeat' split)
      all_goals first | rfl | (exfalso; omega) | (exfalso; simp_all; done)
end
end Go.Proofs.Ytdpcmpfhjhbicaa
