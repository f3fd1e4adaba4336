/- What is wrong with a run. -/
import Derived.Test.YtdpcmpfhjhbicaaBkE
set_option linter.unusedVariables false
set_option linter.unusedSimpArgs false
namespace Go.Proofs.Ytdpcmpfhjhbicaa
open Go.RowKit Go.Viv

def askE (b : List Int) (k W H t s : Int) (D : FD) (gen n : Int) : Int :=
  if checkB b ≠ 0 then 290 else if gridE k W H t s ≠ 0 then gridE k W H t s else if gen < 0 then 2 else if 1125899906842624 < gen then 5 else if W ≠ D.W ∨ H ≠ D.H then 21 else if 2 < D.St then 132
  else if spanE gen n ≠ 0 then spanE gen n else if n < 0 ∧ turnsB b = false then 292 else if 67108864 / (W * H) < n ∨ 67108864 / (W * H) < -n then 4 else 0

theorem mul_bd {W H : Int} (w0 : 0 < W) (w1 : W ≤ 65536) (h0 : 0 < H) (h1 : H ≤ 65536) : 0 < W * H ∧ W * H ≤ 4294967296 :=
  ⟨Int.mul_pos w0 h0, by have := Int.mul_le_mul w1 h1 (by omega) (by omega); omega⟩

theorem W_q {g : Nat} {D : FD} {S : Nat → Prop} {w : World} (h : Fld g D S w) : Calls Try.prog 53 #[.pointer (some ⟨g, 0, none⟩)] w fun e w' => e = .returned (.int .i64 D.W) ∧ w' = w := (W_calls h).mono fun _ _ ⟨a, b⟩ => ⟨a, b.symm⟩
theorem H_q {g : Nat} {D : FD} {S : Nat → Prop} {w : World} (h : Fld g D S w) : Calls Try.prog 54 #[.pointer (some ⟨g, 0, none⟩)] w fun e w' => e = .returned (.int .i64 D.H) ∧ w' = w := (H_calls h).mono fun _ _ ⟨a, b⟩ => ⟨a, b.symm⟩

theorem bdrewN (w : World) (n : Nat) : Below w.heap.size w (w.drewN n) := ⟨rfl, rfl, rfl, Nat.le_refl _, fun _ _ => rfl⟩
section
variable {b : List Int} {k W H t s gen n : Int} {g : Nat} {D : FD} {S : Nat → Prop} {w : World}
/-- the two boxes -/
abbrev askW (b : List Int) (k W H t s : Int) (w : World) : World := (w.alloc (.cells (arr b) 23)).alloc (.cells #[.int .u8 k, .int .i64 W, .int .i64 H, .int .u8 t, .int .i64 s] 29)
theorem askW_K : (askW b k W H t s w).heap[w.heap.size]? = some (.cells (arr b) 23 (0, 0)) := bk_alloc (bk_new _ _) _
theorem askW_T : (askW b k W H t s w).heap[w.heap.size + 1]? = some (.cells #[.int .u8 k, .int .i64 W, .int .i64 H, .int .u8 t, .int .i64 s] 29 (0, 0)) := by
  have := bk_new (w.alloc (.cells (arr b) 23)) (.cells #[.int .u8 k, .int .i64 W, .int .i64 H, .int .u8 t, .int .i64 s] 29)
  simpa only [World.size_alloc] using this
theorem askW_B : Below w.heap.size w (askW b k W H t s w) := (boxed _ _).alloc (by simp) _

set_option maxRecDepth 20000 in
set_option maxHeartbeats 4000000 in
theorem ask_none {q : Option Addr} (hq : NoneAt q w) : Calls Try.prog 44 #[.agg (arr b), topoV k W H t s, .pointer q, .int .i64 gen, .int .i64 n] w (Ret (.int .i64 1) w) := by
  have hB := askW_B (b := b) (k := k) (W := W) (H := H) (t := t) (s := s) (w := w)
  have hq2 := Lib.hid (hq.below hB)
  have HB := Lib.hid hB
  unfold askW at hq2
  rcases hq with rfl | ⟨g, rfl, hg⟩
  · clear hq2 hB
    go_enter Try.func44, Try.ntmps44
    go_wp2
    go_ret
    exact Ret.of rfl HB.out
  · clear hB hg
    go_enter Try.func44, Try.ntmps44
    go_wp2_with (go_at_call 53; ((with_reducible refine (W_none hq2.out).mono ?_); rintro e w' ⟨rfl, rfl⟩))
    go_ret
    exact Ret.of rfl HB.out

set_option maxRecDepth 20000 in
set_option maxHeartbeats 8000000 in
theorem ask_calls (hb : Arr16 b) (t0 : 0 ≤ t) (hF : Fld g D S w) (n0 : -9223372036854775808 ≤ n) (n1 : n ≤ 9223372036854775807) : Calls Try.prog 44 #[.agg (arr b), topoV k W H t s, .pointer (some ⟨g, 0, none⟩), .int .i64 gen, .int .i64 n] w (Ret (.int .i64 (askE b k W H t s D gen n)) w) := by
  have KO := Lib.hid (askW_K (b := b) (k := k) (W := W) (H := H) (t := t) (s := s) (w := w))
  have KT := Lib.hid (askW_T (b := b) (k := k) (W := W) (H := H) (t := t) (s := s) (w := w))
  have hB := Lib.hid (askW_B (b := b) (k := k) (W := W) (H := H) (t := t) (s := s) (w := w))
  have hF1 := Lib.hid (hF.below hB.out)
  have CK := Lib.hid (bCheck_calls hb (askW b k W H t s w))
  have hi := arr_info hb.len
  have dw := hF.ok.w0; have dw1 := hF.ok.w1; have dh := hF.ok.h0; have dh1 := hF.ok.h1
  have hwn : ((D.W : Int) == 0) = false := beq_eq_false_iff_ne.2 (by omega)
  unfold askW at KO KT hB hF1 CK
  by_cases hc : checkB b = 0
  rotate_left
  · have HE : Hid (askE b k W H t s D gen n = 290) := by show _ = _; unfold askE; rw [if_pos hc]
    rw [(checkB_two b).resolve_left hc] at CK
    clear hc hF
    go_enter Try.func44, Try.ntmps44
    go_wp2_with (first | (go_at_call 53; ((with_reducible refine (W_calls hF1.out).mono ?_); rintro e w' ⟨rfl, rfl⟩)) | (go_at_call 17; ((with_reducible refine CK.out.mono ?_); rintro e w1 ⟨rfl, hb1⟩)) | (refine wpList_load_row (by rfl) 23 _ (by rfl) w.heap.size (by rfl) 23 _ (0, 0) _ KO.out Try.underlying23 rfl hi ?_))
    go_ret
    exact Ret.of (by rw [HE.out]; rfl) (next hB.out hb1)
  · rw [hc] at CK
    by_cases hg : gridE k W H t s = 0
    rotate_left
    · have HE : Hid (askE b k W H t s D gen n = gridE k W H t s) := by show _ = _; unfold askE; rw [if_neg (by omega), if_pos hg]
      have hg1 : (gridE k W H t s != 0) = true := bne_iff_ne.2 hg
      clear hc hF hg
      go_enter Try.func44, Try.ntmps44
      go_wp2_with (first | (go_at_call 53; ((with_reducible refine (W_calls hF1.out).mono ?_); rintro e w' ⟨rfl, rfl⟩)) | (go_at_call 17; ((with_reducible refine CK.out.mono ?_); rintro e w1 ⟨rfl, hb1⟩; have hcT := bk_cell (bk_below KT.out hb1))) | (go_at_call 65; ((with_reducible refine (grid_calls k W H t s w1 t0).mono ?_); rintro e w2 ⟨rfl, hb2⟩)) | (refine wpList_load_row (by rfl) 23 _ (by rfl) w.heap.size (by rfl) 23 _ (0, 0) _ KO.out Try.underlying23 rfl hi ?_))
      go_ret
      exact Ret.of (by rw [HE.out]; rfl) (next hB.out (next hb1 hb2))
    · have G := gridOk_of hg
      have ok := topoOk_of t0 G.ok
      have w0 := ok.w0; have w1_ := ok.w1; have h0 := ok.h0; have h1_ := ok.h1
      have gw := G.w0; have gh := G.h0
      have CG := fun w => grid_calls k W H t s w t0
      rw [hg] at CG
      have CG' := Lib.hid CG
      clear CG G ok
      by_cases hgen : gen < 0 ∨ 1125899906842624 < gen
      · have HE : Hid (askE b k W H t s D gen n = if gen < 0 then 2 else 5) := by
          show _ = _; unfold askE; rw [if_neg (by omega), if_neg (by omega)]
          by_cases h : gen < 0
          · rw [if_pos h, if_pos h]
          · rw [if_neg h, if_neg h, if_pos (by omega)]
        have hgen' : (decide (gen < 0) = true) ∨ (decide (gen < 0) = false ∧ decide (1125899906842624 < gen) = true) := by
          by_cases h : gen < 0
          · exact .inl (decide_eq_true h)
          · exact .inr ⟨decide_eq_false h, decide_eq_true (by omega)⟩
        clear hc hF hg hgen
        rcases hgen' with d1 | ⟨d1, d2⟩
        · rw [if_pos (of_decide_eq_true d1)] at HE
          go_enter Try.func44, Try.ntmps44
          go_wp2_with (first | (go_at_call 53; ((with_reducible refine (W_calls hF1.out).mono ?_); rintro e w' ⟨rfl, rfl⟩)) | (go_at_call 17; ((with_reducible refine CK.out.mono ?_); rintro e w1 ⟨rfl, hb1⟩; have hcT := bk_cell (bk_below KT.out hb1))) | (go_at_call 65; ((with_reducible refine (CG'.out w1).mono ?_); rintro e w2 ⟨rfl, hb2⟩)) | (refine wpList_load_row (by rfl) 23 _ (by rfl) w.heap.size (by rfl) 23 _ (0, 0) _ KO.out Try.underlying23 rfl hi ?_))
          go_ret
          exact Ret.of (by rw [HE.out]; rfl) (next hB.out (next hb1 hb2))
        · rw [if_neg (of_decide_eq_false d1)] at HE
          go_enter Try.func44, Try.ntmps44
          go_wp2_with (first | (go_at_call 53; ((with_reducible refine (W_calls hF1.out).mono ?_); rintro e w' ⟨rfl, rfl⟩)) | (go_at_call 17; ((with_reducible refine CK.out.mono ?_); rintro e w1 ⟨rfl, hb1⟩; have hcT := bk_cell (bk_below KT.out hb1))) | (go_at_call 65; ((with_reducible refine (CG'.out w1).mono ?_); rintro e w2 ⟨rfl, hb2⟩)) | (refine wpList_load_row (by rfl) 23 _ (by rfl) w.heap.size (by rfl) 23 _ (0, 0) _ KO.out Try.underlying23 rfl hi ?_))
          go_ret
          exact Ret.of (by rw [HE.out]; rfl) (next hB.out (next hb1 hb2))
      · have e0 : decide (gen < 0) = false := decide_eq_false (by omega)
        have e1 : decide (1125899906842624 < gen) = false := decide_eq_false (by omega)
        have HE : Hid (askE b k W H t s D gen n = if W ≠ D.W ∨ H ≠ D.H then 21 else if 2 < D.St then 132 else if spanE gen n ≠ 0 then spanE gen n else if n < 0 ∧ turnsB b = false then 292 else if 67108864 / (W * H) < n ∨ 67108864 / (W * H) < -n then 4 else 0) := by
          show _ = _; unfold askE; rw [if_neg (by omega), if_neg (by omega), if_neg (by omega), if_neg (by omega)]
        have g0 : 0 ≤ gen := by omega
        have g1 : gen ≤ 1125899906842624 := by omega
        obtain ⟨m0, m1⟩ := mul_bd (W := W) (H := H) (by omega) w1_ (by omega) h1_
        clear hF hg hgen
        have hex : (¬ W = D.W) ∨ (W = D.W ∧ ¬ H = D.H) ∨ (W = D.W ∧ H = D.H) := by omega
        rcases hex with hx | ⟨hx, hy⟩ | ⟨hx, hy⟩
        · have hq : (W != D.W) = true := bne_iff_ne.2 hx
          rw [if_pos (.inl hx)] at HE
          clear hx
          go_enter Try.func44, Try.ntmps44
          go_wp2_with (first | (go_at_call 53; ((with_reducible refine (W_calls hF1.out).mono ?_); rintro e w' ⟨rfl, rfl⟩)) | (go_at_call 17; ((with_reducible refine CK.out.mono ?_); rintro e w1 ⟨rfl, hb1⟩; have hcT := bk_cell (bk_below KT.out hb1))) | (go_at_call 65; ((with_reducible refine (CG'.out w1).mono ?_); rintro e w2 ⟨rfl, hb2⟩; have hcT2 := bk_cell (bk_below (bk_below KT.out hb1) hb2); have hF2 := Lib.hid (hF1.out.below (next hb1 hb2)))) | (refine wpList_load_row (by rfl) 23 _ (by rfl) w.heap.size (by rfl) 23 _ (0, 0) _ KO.out Try.underlying23 rfl hi ?_))
          go_quiet ((first | (go_at_call 53; exact Calls.quiet_of_same (W_q (hF2.out.drewN _))) | (go_at_call 54; exact Calls.quiet_of_same (H_q (hF2.out.drewN _)))))
          go_wp2
          go_ret
          exact Ret.of (by rw [HE.out]; rfl) (next hB.out (next hb1 (next hb2 (bdrewN _ _))))
        · have hq : (W != D.W) = false := by simp [hx]
          have hq2 : (H != D.H) = true := bne_iff_ne.2 hy
          rw [if_pos (.inr hy)] at HE
          clear hx hy
          go_enter Try.func44, Try.ntmps44
          go_wp2_with (first | (go_at_call 53; ((with_reducible refine (W_calls hF1.out).mono ?_); rintro e w' ⟨rfl, rfl⟩)) | (go_at_call 17; ((with_reducible refine CK.out.mono ?_); rintro e w1 ⟨rfl, hb1⟩; have hcT := bk_cell (bk_below KT.out hb1))) | (go_at_call 65; ((with_reducible refine (CG'.out w1).mono ?_); rintro e w2 ⟨rfl, hb2⟩; have hcT2 := bk_cell (bk_below (bk_below KT.out hb1) hb2); have hF2 := Lib.hid (hF1.out.below (next hb1 hb2)))) | (refine wpList_load_row (by rfl) 23 _ (by rfl) w.heap.size (by rfl) 23 _ (0, 0) _ KO.out Try.underlying23 rfl hi ?_))
          go_quiet ((first | (go_at_call 53; exact Calls.quiet_of_same (W_q (hF2.out.drewN _))) | (go_at_call 54; exact Calls.quiet_of_same (H_q (hF2.out.drewN _)))))
          go_wp2
          go_ret
          exact Ret.of (by rw [HE.out]; rfl) (next hB.out (next hb1 (next hb2 (bdrewN _ _))))
        · have hq : (W != D.W) = false := by simp [hx]
          have hq2 : (H != D.H) = false := by simp [hy]
          rw [if_neg (by omega)] at HE
          clear hx hy
          have CT : Hid (∀ w', Calls Try.prog 22 #[.agg (arr b)] w' (Ret (.tuple #[.bool (turnsB b), .int .i64 0]) w')) := fun w' => by have := Turns_calls hb w'; rw [hc] at this; exact this
          clear hc
          by_cases hst : 2 < D.St
          · have d1 : decide (2 < D.St) = true := decide_eq_true hst
            rw [if_pos hst] at HE
            clear hst
            go_enter Try.func44, Try.ntmps44
            go_wp2_with (first | (go_at_call 53; ((with_reducible refine (W_calls hF1.out).mono ?_); rintro e w' ⟨rfl, rfl⟩)) | (go_at_call 17; ((with_reducible refine CK.out.mono ?_); rintro e w1 ⟨rfl, hb1⟩; have hcT := bk_cell (bk_below KT.out hb1))) | (go_at_call 65; ((with_reducible refine (CG'.out w1).mono ?_); rintro e w2 ⟨rfl, hb2⟩; have hcT2 := bk_cell (bk_below (bk_below KT.out hb1) hb2); have hF2 := Lib.hid (hF1.out.below (next hb1 hb2)))) | (refine wpList_load_row (by rfl) 23 _ (by rfl) w.heap.size (by rfl) 23 _ (0, 0) _ KO.out Try.underlying23 rfl hi ?_))
            go_quiet ((first | (go_at_call 53; exact Calls.quiet_of_same (W_q (hF2.out.drewN _))) | (go_at_call 54; exact Calls.quiet_of_same (H_q (hF2.out.drewN _)))))
            have hbb := next hB.out (next hb1 (next hb2 (bdrewN w2 nq)))
            have KO3 := Lib.hid (bk_drewN (bk_below (bk_below KO.out hb1) hb2) nq)
            have KT3 := Lib.hid (bk_drewN (bk_below (bk_below KT.out hb1) hb2) nq)
            have hF3 := Lib.hid (hF2.out.drewN nq)
            have HBB := Lib.hid hbb
            clear hcT hcT2 hF2 hb1 hb2 hbb
            generalize w2.drewN nq = W3 at *
            go_wp2_with (first | (go_at_call 55; ((with_reducible refine (States_calls hF3.out).mono ?_); rintro e w' ⟨rfl, rfl⟩)) | (go_at_call 66; ((with_reducible refine (span_calls gen n _ g0 g1 n0 n1).mono ?_); rintro e w' ⟨rfl, rfl⟩)) | (refine wpList_load_row (by rfl) 23 _ (by rfl) w.heap.size (by rfl) 23 _ (0, 0) _ KO3.out Try.underlying23 rfl hi ?_) | (go_at_call 22; ((with_reducible refine (CT.out W3).mono ?_); rintro e w4 ⟨rfl, hb4⟩; have hcT4 := bk_cell (bk_below KT3.out hb4))))
            go_ret
            exact Ret.of (by rw [HE.out]; rfl) HBB.out
          · have d1 : decide (2 < D.St) = false := decide_eq_false hst
            rw [if_neg hst] at HE
            clear hst
            by_cases hsp : spanE gen n = 0
            · have d2 : (spanE gen n != 0) = false := by simp [hsp]
              rw [if_neg (by omega)] at HE
              have hnn : -1125899906842624 ≤ n ∧ n ≤ 1125899906842624 := by
                unfold spanE at hsp
                split at hsp
                · omega
                · split at hsp <;> omega
              obtain ⟨nn0, nn1⟩ := hnn
              clear hsp
              by_cases htn : n < 0 ∧ turnsB b = false
              · have d3 : decide (n < 0) = true := decide_eq_true htn.1
                rw [if_pos htn] at HE
                rw [htn.2] at CT
                clear htn
                go_enter Try.func44, Try.ntmps44
                go_wp2_with (first | (go_at_call 53; ((with_reducible refine (W_calls hF1.out).mono ?_); rintro e w' ⟨rfl, rfl⟩)) | (go_at_call 17; ((with_reducible refine CK.out.mono ?_); rintro e w1 ⟨rfl, hb1⟩; have hcT := bk_cell (bk_below KT.out hb1))) | (go_at_call 65; ((with_reducible refine (CG'.out w1).mono ?_); rintro e w2 ⟨rfl, hb2⟩; have hcT2 := bk_cell (bk_below (bk_below KT.out hb1) hb2); have hF2 := Lib.hid (hF1.out.below (next hb1 hb2)))) | (refine wpList_load_row (by rfl) 23 _ (by rfl) w.heap.size (by rfl) 23 _ (0, 0) _ KO.out Try.underlying23 rfl hi ?_))
                go_quiet ((first | (go_at_call 53; exact Calls.quiet_of_same (W_q (hF2.out.drewN _))) | (go_at_call 54; exact Calls.quiet_of_same (H_q (hF2.out.drewN _)))))
                have hbb := next hB.out (next hb1 (next hb2 (bdrewN w2 nq)))
                have KO3 := Lib.hid (bk_drewN (bk_below (bk_below KO.out hb1) hb2) nq)
                have KT3 := Lib.hid (bk_drewN (bk_below (bk_below KT.out hb1) hb2) nq)
                have hF3 := Lib.hid (hF2.out.drewN nq)
                have HBB := Lib.hid hbb
                clear hcT hcT2 hF2 hb1 hb2 hbb
                generalize w2.drewN nq = W3 at *
                go_wp2_with (first | (go_at_call 55; ((with_reducible refine (States_calls hF3.out).mono ?_); rintro e w' ⟨rfl, rfl⟩)) | (go_at_call 66; ((with_reducible refine (span_calls gen n _ g0 g1 n0 n1).mono ?_); rintro e w' ⟨rfl, rfl⟩)) | (refine wpList_load_row (by rfl) 23 _ (by rfl) w.heap.size (by rfl) 23 _ (0, 0) _ KO3.out Try.underlying23 rfl hi ?_) | (go_at_call 22; ((with_reducible refine (CT.out W3).mono ?_); rintro e w4 ⟨rfl, hb4⟩; have hcT4 := bk_cell (bk_below KT3.out hb4))))
                go_ret
                exact Ret.of (by rw [HE.out]; rfl) (next HBB.out hb4)
              · rw [if_neg htn] at HE
                have hq : Int.tdiv 67108864 (W * H) = 67108864 / (W * H) := Int.tdiv_eq_ediv_of_nonneg (by omega)
                have q1 : 0 ≤ 67108864 / (W * H) ∧ 67108864 / (W * H) ≤ 67108864 := ⟨Int.ediv_nonneg (by omega) (by omega), Int.ediv_le_self _ (by omega)⟩
                have m2 : (W * H == 0) = false := beq_eq_false_iff_ne.2 (by omega)
                obtain ⟨q2, q3⟩ := q1
                have htn' : decide (n < 0) = false ∨ (decide (n < 0) = true ∧ turnsB b = true) := by
                  by_cases h : n < 0
                  · refine .inr ⟨decide_eq_true h, ?_⟩
                    cases h2 : turnsB b
                    · exact absurd ⟨h, h2⟩ htn
                    · rfl
                  · exact .inl (decide_eq_false h)
                clear htn
                generalize hQ : 67108864 / (W * H) = Q at *
                clear hQ
                have fin : Hid (∀ v, v = (if Q < n ∨ Q < -n then 4 else 0) → askE b k W H t s D gen n = v) := fun v e => by rw [HE.out, e]
                rcases htn' with d3 | ⟨d3, d4⟩
                · generalize turnsB b = tb at *
                  go_enter Try.func44, Try.ntmps44
                  go_wp2_with (first | (go_at_call 53; ((with_reducible refine (W_calls hF1.out).mono ?_); rintro e w' ⟨rfl, rfl⟩)) | (go_at_call 17; ((with_reducible refine CK.out.mono ?_); rintro e w1 ⟨rfl, hb1⟩; have hcT := bk_cell (bk_below KT.out hb1))) | (go_at_call 65; ((with_reducible refine (CG'.out w1).mono ?_); rintro e w2 ⟨rfl, hb2⟩; have hcT2 := bk_cell (bk_below (bk_below KT.out hb1) hb2); have hF2 := Lib.hid (hF1.out.below (next hb1 hb2)))) | (refine wpList_load_row (by rfl) 23 _ (by rfl) w.heap.size (by rfl) 23 _ (0, 0) _ KO.out Try.underlying23 rfl hi ?_))
                  go_quiet ((first | (go_at_call 53; exact Calls.quiet_of_same (W_q (hF2.out.drewN _))) | (go_at_call 54; exact Calls.quiet_of_same (H_q (hF2.out.drewN _)))))
                  have hbb := next hB.out (next hb1 (next hb2 (bdrewN w2 nq)))
                  have KO3 := Lib.hid (bk_drewN (bk_below (bk_below KO.out hb1) hb2) nq)
                  have KT3 := Lib.hid (bk_drewN (bk_below (bk_below KT.out hb1) hb2) nq)
                  have hF3 := Lib.hid (hF2.out.drewN nq)
                  have HBB := Lib.hid hbb
                  clear hcT hcT2 hF2 hb1 hb2 hbb
                  generalize w2.drewN nq = W3 at *
                  go_wp2_with (first | (go_at_call 55; ((with_reducible refine (States_calls hF3.out).mono ?_); rintro e w' ⟨rfl, rfl⟩)) | (go_at_call 66; ((with_reducible refine (span_calls gen n _ g0 g1 n0 n1).mono ?_); rintro e w' ⟨rfl, rfl⟩)) | (refine wpList_load_row (by rfl) 23 _ (by rfl) w.heap.size (by rfl) 23 _ (0, 0) _ KO3.out Try.underlying23 rfl hi ?_) | (go_at_call 22; ((with_reducible refine (CT.out W3).mono ?_); rintro e w4 ⟨rfl, hb4⟩; have hcT4 := bk_cell (bk_below KT3.out hb4))))
                  all_goals
                    go_ret
                    refine Ret.of ?_ (next HBB.out hb4)
                    rw [fin.out _ rfl]
                    clear fin HE
                    simp only [beq_iff_eq, beq_eq_false_iff_ne, ne_eq, bne_iff_ne, bne_eq_false_iff_eq, Bool.and_eq_true, Bool.or_eq_true, Bool.not_eq_true', Bool.not_eq_false', decide_eq_true_eq, decide_eq_false_iff_not, Bool.and_eq_false_iff, Bool.or_eq_false_iff] at *
                    show Value.int .i64 _ = _
                    congr 1
                    (repeat' split) <;> omega
                · rw [d4] at CT
                  go_enter Try.func44, Try.ntmps44
                  go_wp2_with (first | (go_at_call 53; ((with_reducible refine (W_calls hF1.out).mono ?_); rintro e w' ⟨rfl, rfl⟩)) | (go_at_call 17; ((with_reducible refine CK.out.mono ?_); rintro e w1 ⟨rfl, hb1⟩; have hcT := bk_cell (bk_below KT.out hb1))) | (go_at_call 65; ((with_reducible refine (CG'.out w1).mono ?_); rintro e w2 ⟨rfl, hb2⟩; have hcT2 := bk_cell (bk_below (bk_below KT.out hb1) hb2); have hF2 := Lib.hid (hF1.out.below (next hb1 hb2)))) | (refine wpList_load_row (by rfl) 23 _ (by rfl) w.heap.size (by rfl) 23 _ (0, 0) _ KO.out Try.underlying23 rfl hi ?_))
                  go_quiet ((first | (go_at_call 53; exact Calls.quiet_of_same (W_q (hF2.out.drewN _))) | (go_at_call 54; exact Calls.quiet_of_same (H_q (hF2.out.drewN _)))))
                  have hbb := next hB.out (next hb1 (next hb2 (bdrewN w2 nq)))
                  have KO3 := Lib.hid (bk_drewN (bk_below (bk_below KO.out hb1) hb2) nq)
                  have KT3 := Lib.hid (bk_drewN (bk_below (bk_below KT.out hb1) hb2) nq)
                  have hF3 := Lib.hid (hF2.out.drewN nq)
                  have HBB := Lib.hid hbb
                  clear hcT hcT2 hF2 hb1 hb2 hbb
                  generalize w2.drewN nq = W3 at *
                  go_wp2_with (first | (go_at_call 55; ((with_reducible refine (States_calls hF3.out).mono ?_); rintro e w' ⟨rfl, rfl⟩)) | (go_at_call 66; ((with_reducible refine (span_calls gen n _ g0 g1 n0 n1).mono ?_); rintro e w' ⟨rfl, rfl⟩)) | (refine wpList_load_row (by rfl) 23 _ (by rfl) w.heap.size (by rfl) 23 _ (0, 0) _ KO3.out Try.underlying23 rfl hi ?_) | (go_at_call 22; ((with_reducible refine (CT.out W3).mono ?_); rintro e w4 ⟨rfl, hb4⟩; have hcT4 := bk_cell (bk_below KT3.out hb4))))
                  all_goals
                    go_ret
                    refine Ret.of ?_ (next HBB.out hb4)
                    rw [fin.out _ rfl]
                    clear fin HE
                    simp only [beq_iff_eq, beq_eq_false_iff_ne, ne_eq, bne_iff_ne, bne_eq_false_iff_eq, Bool.and_eq_true, Bool.or_eq_true, Bool.not_eq_true', Bool.not_eq_false', decide_eq_true_eq, decide_eq_false_iff_not, Bool.and_eq_false_iff, Bool.or_eq_false_iff] at *
                    show Value.int .i64 _ = _
                    congr 1
                    (repeat' split) <;> omega
            · have d2 : (spanE gen n != 0) = true := bne_iff_ne.2 hsp
              rw [if_pos hsp] at HE
              clear hsp
              go_enter Try.func44, Try.ntmps44
              go_wp2_with (first | (go_at_call 53; ((with_reducible refine (W_calls hF1.out).mono ?_); rintro e w' ⟨rfl, rfl⟩)) | (go_at_call 17; ((with_reducible refine CK.out.mono ?_); rintro e w1 ⟨rfl, hb1⟩; have hcT := bk_cell (bk_below KT.out hb1))) | (go_at_call 65; ((with_reducible refine (CG'.out w1).mono ?_); rintro e w2 ⟨rfl, hb2⟩; have hcT2 := bk_cell (bk_below (bk_below KT.out hb1) hb2); have hF2 := Lib.hid (hF1.out.below (next hb1 hb2)))) | (refine wpList_load_row (by rfl) 23 _ (by rfl) w.heap.size (by rfl) 23 _ (0, 0) _ KO.out Try.underlying23 rfl hi ?_))
              go_quiet ((first | (go_at_call 53; exact Calls.quiet_of_same (W_q (hF2.out.drewN _))) | (go_at_call 54; exact Calls.quiet_of_same (H_q (hF2.out.drewN _)))))
              have hbb := next hB.out (next hb1 (next hb2 (bdrewN w2 nq)))
              have KO3 := Lib.hid (bk_drewN (bk_below (bk_below KO.out hb1) hb2) nq)
              have KT3 := Lib.hid (bk_drewN (bk_below (bk_below KT.out hb1) hb2) nq)
              have hF3 := Lib.hid (hF2.out.drewN nq)
              have HBB := Lib.hid hbb
              clear hcT hcT2 hF2 hb1 hb2 hbb
              generalize w2.drewN nq = W3 at *
              go_wp2_with (first | (go_at_call 55; ((with_reducible refine (States_calls hF3.out).mono ?_); rintro e w' ⟨rfl, rfl⟩)) | (go_at_call 66; ((with_reducible refine (span_calls gen n _ g0 g1 n0 n1).mono ?_); rintro e w' ⟨rfl, rfl⟩)) | (refine wpList_load_row (by rfl) 23 _ (by rfl) w.heap.size (by rfl) 23 _ (0, 0) _ KO3.out Try.underlying23 rfl hi ?_) | (go_at_call 22; ((with_reducible refine (CT.out W3).mono ?_); rintro e w4 ⟨rfl, hb4⟩; have hcT4 := bk_cell (bk_below KT3.out hb4))))
              go_ret
              exact Ret.of (by rw [HE.out]; rfl) HBB.out
end
end Go.Proofs.Ytdpcmpfhjhbicaa
