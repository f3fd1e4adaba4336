/- The document's generation (once). -/
import Derived.Test.YtdpcmpfhjhbicaaBkOp
import Derived.BigQuiet
import Derived.Deep.QuietTactic
set_option linter.unusedVariables false
set_option linter.unusedSimpArgs false
namespace Go.Proofs.Ytdpcmpfhjhbicaa
open Go.RowKit Go.Viv

set_option maxRecDepth 20000 in
set_option maxHeartbeats 8000000 in
theorem once_calls {r : List Int} {k t s g : Int} {Wn Hn wn hn cb c N : Nat} {f : Nat → Nat → Int} {w : World} (hN : N = Wn * Hn) (hr : Arr16 r) (hc : checkB r = 0) (ev : EvenOk k Wn Hn t s wn hn) (g0 : 0 ≤ g) (g1 : g ≤ 9223372036854775807) (hF : Flat cb Wn Hn f w) (hf : ∀ p : Cl, p.1 < Wn → p.2 < Hn → at_ f p = 0 ∨ at_ f p = 1) (hwh : N ≤ 1048576) (hcc : N ≤ c) (hcm : c ≤ 9223372036854775807) :
    Calls Try.prog 52 #[.agg (arr r), topoV k Wn Hn t s, .slice (some ⟨cb, 0, none⟩) N c, .int .i64 g] w (OnceP Wn Hn N (genM r (blkL k Wn Hn t s (g % 2)) f) w) := by
  have KO := Lib.hid (askW_K (b := r) (k := k) (W := Wn) (H := Hn) (t := t) (s := s) (w := w))
  have KT := Lib.hid (askW_T (b := r) (k := k) (W := Wn) (H := Hn) (t := t) (s := s) (w := w))
  have hB := Lib.hid (askW_B (b := r) (k := k) (W := Wn) (H := Hn) (t := t) (s := s) (w := w))
  have HF := Lib.hid (hF.below hB.out)
  unfold askW at KO KT hB HF
  have evp := ev.pos
  obtain ⟨hp1, hp2, hp3, hp4⟩ := evp
  have hpos : 0 < N := by rw [hN]; exact Nat.mul_pos (by omega) (by omega)
  have hlen : Hid ((flatL Wn Hn f).length = N) := by show _ = _; simp [flatL, hN]
  have HN := Lib.hid hN
  clear hN
  have hW : 0 < Wn := by omega
  have hone : ∀ u ∈ (flatL Wn Hn f).map (Value.int .u8), u.oneCell' = true := fun u hu => by obtain ⟨z, _, rfl⟩ := List.mem_map.1 hu; rfl
  have hF0 := hF.lt
  clear hF
  go_enter Try.func52, Try.ntmps52
  go_wp2_with (at_builtin; (refine app_rd rfl _ _ 44 rfl (w.heap.size + 1 + 1) 5 _ 1 1 Try.underlying44 u8info rfl (by decide) _ 0 [] (by rfl) (World.ownsRow_nil _ _ _ _) (some ⟨cb, 0, none⟩) N c ((flatL Wn Hn f).map (.int .u8)) (by rfl) (HF.out.rd hW) (by rw [List.length_map, Nat.mul_one]; exact hlen.out) hone (by unfold maxLen; omega) (by omega) (by simp) ?_); intro v' w1 hown hb1 hgr; obtain ⟨ob, c2, rfl, ho1, hob, hc2, hc3⟩ := flat_own (W := Wn) (H := Hn) (f := f) HN.out (by rw [Nat.zero_add, List.nil_append] at hown; exact hown) hpos (fun y x hy hx => flatL_at hy hx); have hS1 : Hid (OcSt cb ob Wn Hn r k t s f f w w1) := ⟨bk_below KO.out (by simpa using hb1), bk_below KT.out (by simpa using hb1), HF.out.below (by simpa using hb1), ho1, next hB.out (by simpa using hb1)⟩; clear hown hb1 hgr ho1)
  have hcb : Hid (cb < ob) := Nat.lt_of_lt_of_le hF0 (by omega)
  have hob' : Hid (w.heap.size + 1 < ob) := by show _ < _; omega
  obtain ⟨d, hd, hd1⟩ : ∃ d : Nat, g % 2 = (d : Int) ∧ d ≤ 1 := ⟨(g % 2).toNat, by omega, by omega⟩
  have E1 := Lib.hid ev.w; have E2 := Lib.hid ev.h
  have okT := topoOk_of ev.t0 ev.g.ok
  have s0 : -65536 ≤ s := by
    have := okT.t2; have := okT.t0; have a0 := okT.shift0; have a1 := okT.shift1; have a2 := okT.shift2; omega
  have s1 : s ≤ 65536 := by
    have := okT.t2; have := okT.t0; have a0 := okT.shift0; have a1 := okT.shift1; have a2 := okT.shift2; omega
  have HEV := Lib.hid ev; have HR := Lib.hid hr; have HCK := Lib.hid hc; have HFB := Lib.hid hf
  have S0 : Hid (OcSt cb ob Wn Hn r k t s f (parM r (ocL k Wn Hn t s d 0 0) f f) w w1) := hS1
  have HD := Lib.hid hd
  rw [hd]
  clear hd
  clear hS1 okT KO KT hB HF hone ev hr hc hf hlen
  go_loopw [10] (fun vv wr => ∃ i : Nat, vv = .int .i64 ((d : Int) + 2 * (i : Int)) ∧ i ≤ hn ∧ Hid (OcSt cb ob Wn Hn r k t s f (parM r (ocL k Wn Hn t s d i 0) f f) w wr)) (fun vv _ => Hn + 2 - (intOf vv).toNat)
  case atStart => exact ⟨0, by simp, Nat.zero_le _, S0⟩
  clear S0
  obtain ⟨i, rfl, hi, HS⟩ := hrel
  have ht0 := bk_cell HS.out.t
  by_cases hlt : i < hn
  · have hv1 : (d : Int) + 2 * (i : Int) < (Hn : Int) := by have := E2.out; omega
    go_wp2_with (first | fail)
    go_loopw [11] (fun uu wx => ∃ j : Nat, uu = .int .i64 ((d : Int) + 2 * (j : Int)) ∧ j ≤ wn ∧ Hid (OcSt cb ob Wn Hn r k t s f (parM r (ocL k Wn Hn t s d i j) f f) w wx)) (fun uu _ => Wn + 2 - (intOf uu).toNat)
    case atStart => exact ⟨0, by rw [HD.out]; simp, Nat.zero_le _, HS⟩
    clear HS ht0
    obtain ⟨j, rfl, hj, HX⟩ := hrel
    have ht0 := bk_cell HX.out.t
    by_cases hjl : j < wn
    · have hu1 : (d : Int) + 2 * (j : Int) < (Wn : Int) := by have := E1.out; omega
      obtain ⟨U, hU, hU0⟩ : ∃ U : Int, (d : Int) + 2 * (j : Int) = U ∧ 0 ≤ U := ⟨_, rfl, by omega⟩
      obtain ⟨V, hV, hV0⟩ : ∃ V : Int, (d : Int) + 2 * (i : Int) = V ∧ 0 ≤ V := ⟨_, rfl, by omega⟩
      rw [hU] at hu1; rw [hV] at hv1
      have P00 := Lib.hid (fun w => rplace_calls k Wn Hn t s (U) (V) w (by omega) (by omega) (by omega) (by omega) s0 s1 (by omega) (by omega) (by omega) (by omega))
      have P10 := Lib.hid (fun w => rplace_calls k Wn Hn t s (U + 1) (V) w (by omega) (by omega) (by omega) (by omega) s0 s1 (by omega) (by omega) (by omega) (by omega))
      have P01 := Lib.hid (fun w => rplace_calls k Wn Hn t s (U) (V + 1) w (by omega) (by omega) (by omega) (by omega) s0 s1 (by omega) (by omega) (by omega) (by omega))
      have P11 := Lib.hid (fun w => rplace_calls k Wn Hn t s (U + 1) (V + 1) w (by omega) (by omega) (by omega) (by omega) s0 s1 (by omega) (by omega) (by omega) (by omega))
      have hwU : IntKind.i64.wrap (U + 1) = U + 1 := by rw [IntKind.wrap_i64]; omega
      have hwV : IntKind.i64.wrap (V + 1) = V + 1 := by rw [IntKind.wrap_i64]; omega
      go_wp2_with (first | fail)
      rw [hU, hV]
      have hdr := HX.out.below (Below.refl _ _).drew
      have hwr := HX.out
      apply shares
      · intro rest
        go_region_held3 (fun w' => w'.cell? ⟨w.heap.size + 1, 0, none⟩ = some (.int .u8 k) ∧ w'.cell? ⟨w.heap.size + 1, 1, none⟩ = some (.int .i64 Wn) ∧ w'.cell? ⟨w.heap.size + 1, 2, none⟩ = some (.int .i64 Hn) ∧ w'.cell? ⟨w.heap.size + 1, 3, none⟩ = some (.int .u8 t) ∧ w'.cell? ⟨w.heap.size + 1, 4, none⟩ = some (.int .i64 s) ∧ OcSt cb ob Wn Hn r k t s f (parM r (ocL k Wn Hn t s d i j) f f) w w')
          (first | exact (HX.out.below (Below.refl _ _).drew).held | with_reducible exact ((HX.out.below (boxed _ _)).below (Below.refl _ _).drew).held | exact hs'.held | with_reducible exact (hs'.below (boxed _ _)).held | with_reducible exact (hs'.four kb.1 kb.2.1 kb.2.2 (Nat.lt_of_succ_lt kb.1)).held | with_reducible exact ((heldO (by assumption)).below (boxed _ _)).held)
          (first | (go_at_call 69; (first | (with_reducible show Calls _ _ _ (w7.alloc (.cells #[.int .i64 0, .int .i64 0, .int .i64 0, .int .i64 0] 113)) _; have ka0 := bk_new w7 (.cells #[.int .i64 0, .int .i64 0, .int .i64 0, .int .i64 0] 113); have kb := hs'.lts; generalize hpb : w7.heap.size = pb at *) | (with_reducible show Calls _ _ _ (wr.alloc (.cells #[.int .i64 0, .int .i64 0, .int .i64 0, .int .i64 0] 113)).drew _; have ka0 := bk_drew (bk_new wr (.cells #[.int .i64 0, .int .i64 0, .int .i64 0, .int .i64 0] 113)); have kb := hwr.lts; generalize hpb : wr.heap.size = pb at *) | skip); (have hh : OcSt cb ob Wn Hn r k t s f (parM r (ocL k Wn Hn t s d i j) f f) w _ := heldO (by assumption)); (with_reducible refine (P00.out _).mono ?_); rintro e w7 ⟨rfl, hb7⟩; have hs' := hh.below hb7; (first | (with_reducible have ka := bk_below ka hb7; have kc := bk_cell ka; have kf := bk_free ka) | (with_reducible have ka := bk_below ka0 hb7; have kc := bk_cell ka; have kf := bk_free ka) | (with_reducible have ka := bk_below (bk_drew (bk_new _ (.cells #[.int .i64 0, .int .i64 0, .int .i64 0, .int .i64 0] 113))) hb7; have kc := bk_cell ka; have kf := bk_free ka) | skip)) | (go_at_call 69; (first | (with_reducible show Calls _ _ _ (w7.alloc (.cells #[.int .i64 0, .int .i64 0, .int .i64 0, .int .i64 0] 113)) _; have ka0 := bk_new w7 (.cells #[.int .i64 0, .int .i64 0, .int .i64 0, .int .i64 0] 113); have kb := hs'.lts; generalize hpb : w7.heap.size = pb at *) | (with_reducible show Calls _ _ _ (wr.alloc (.cells #[.int .i64 0, .int .i64 0, .int .i64 0, .int .i64 0] 113)).drew _; have ka0 := bk_drew (bk_new wr (.cells #[.int .i64 0, .int .i64 0, .int .i64 0, .int .i64 0] 113)); have kb := hwr.lts; generalize hpb : wr.heap.size = pb at *) | skip); (have hh : OcSt cb ob Wn Hn r k t s f (parM r (ocL k Wn Hn t s d i j) f f) w _ := heldO (by assumption)); (with_reducible refine (P10.out _).mono ?_); rintro e w7 ⟨rfl, hb7⟩; have hs' := hh.below hb7; (first | (with_reducible have ka := bk_below ka hb7; have kc := bk_cell ka; have kf := bk_free ka) | (with_reducible have ka := bk_below ka0 hb7; have kc := bk_cell ka; have kf := bk_free ka) | (with_reducible have ka := bk_below (bk_drew (bk_new _ (.cells #[.int .i64 0, .int .i64 0, .int .i64 0, .int .i64 0] 113))) hb7; have kc := bk_cell ka; have kf := bk_free ka) | skip)) | (go_at_call 69; (first | (with_reducible show Calls _ _ _ (w7.alloc (.cells #[.int .i64 0, .int .i64 0, .int .i64 0, .int .i64 0] 113)) _; have ka0 := bk_new w7 (.cells #[.int .i64 0, .int .i64 0, .int .i64 0, .int .i64 0] 113); have kb := hs'.lts; generalize hpb : w7.heap.size = pb at *) | (with_reducible show Calls _ _ _ (wr.alloc (.cells #[.int .i64 0, .int .i64 0, .int .i64 0, .int .i64 0] 113)).drew _; have ka0 := bk_drew (bk_new wr (.cells #[.int .i64 0, .int .i64 0, .int .i64 0, .int .i64 0] 113)); have kb := hwr.lts; generalize hpb : wr.heap.size = pb at *) | skip); (have hh : OcSt cb ob Wn Hn r k t s f (parM r (ocL k Wn Hn t s d i j) f f) w _ := heldO (by assumption)); (with_reducible refine (P01.out _).mono ?_); rintro e w7 ⟨rfl, hb7⟩; have hs' := hh.below hb7; (first | (with_reducible have ka := bk_below ka hb7; have kc := bk_cell ka; have kf := bk_free ka) | (with_reducible have ka := bk_below ka0 hb7; have kc := bk_cell ka; have kf := bk_free ka) | (with_reducible have ka := bk_below (bk_drew (bk_new _ (.cells #[.int .i64 0, .int .i64 0, .int .i64 0, .int .i64 0] 113))) hb7; have kc := bk_cell ka; have kf := bk_free ka) | skip)) | (go_at_call 69; (first | (with_reducible show Calls _ _ _ (w7.alloc (.cells #[.int .i64 0, .int .i64 0, .int .i64 0, .int .i64 0] 113)) _; have ka0 := bk_new w7 (.cells #[.int .i64 0, .int .i64 0, .int .i64 0, .int .i64 0] 113); have kb := hs'.lts; generalize hpb : w7.heap.size = pb at *) | (with_reducible show Calls _ _ _ (wr.alloc (.cells #[.int .i64 0, .int .i64 0, .int .i64 0, .int .i64 0] 113)).drew _; have ka0 := bk_drew (bk_new wr (.cells #[.int .i64 0, .int .i64 0, .int .i64 0, .int .i64 0] 113)); have kb := hwr.lts; generalize hpb : wr.heap.size = pb at *) | skip); (have hh : OcSt cb ob Wn Hn r k t s f (parM r (ocL k Wn Hn t s d i j) f f) w _ := heldO (by assumption)); (with_reducible refine (P11.out _).mono ?_); rintro e w7 ⟨rfl, hb7⟩; have hs' := hh.below hb7; (first | (with_reducible have ka := bk_below ka hb7; have kc := bk_cell ka; have kf := bk_free ka) | (with_reducible have ka := bk_below ka0 hb7; have kc := bk_cell ka; have kf := bk_free ka) | (with_reducible have ka := bk_below (bk_drew (bk_new _ (.cells #[.int .i64 0, .int .i64 0, .int .i64 0, .int .i64 0] 113))) hb7; have kc := bk_cell ka; have kf := bk_free ka) | skip)) )
        · have kb := hs'.lts
          have KP := bk_new w7 (.cells #[.int .i64 (plcE k Wn Hn t s U V), .int .i64 (plcE k Wn Hn t s (U + 1) V), .int .i64 (plcE k Wn Hn t s U (V + 1)), .int .i64 (plcE k Wn Hn t s (U + 1) (V + 1))] 113)
          have hS := Lib.hid (hs'.below (boxed w7 (.cells #[.int .i64 (plcE k Wn Hn t s U V), .int .i64 (plcE k Wn Hn t s (U + 1) V), .int .i64 (plcE k Wn Hn t s U (V + 1)), .int .i64 (plcE k Wn Hn t s (U + 1) (V + 1))] 113)))
          revert hS KP kb
          generalize w7.alloc (.cells #[.int .i64 (plcE k Wn Hn t s U V), .int .i64 (plcE k Wn Hn t s (U + 1) V), .int .i64 (plcE k Wn Hn t s U (V + 1)), .int .i64 (plcE k Wn Hn t s (U + 1) (V + 1))] 113) = WX
          generalize w7.heap.size = pb
          revert WX; revert pb; exact rest
        all_goals have KP := bk_eq (cs' := #[.int .i64 (plcE k Wn Hn t s U V), .int .i64 (plcE k Wn Hn t s (U + 1) V), .int .i64 (plcE k Wn Hn t s U (V + 1)), .int .i64 (plcE k Wn Hn t s (U + 1) (V + 1))]) (bk_set (bk_set (bk_set (bk_set ka 0 (.int .i64 (plcE k Wn Hn t s U V))) 1 (.int .i64 (plcE k Wn Hn t s (U + 1) V))) 2 (.int .i64 (plcE k Wn Hn t s U (V + 1)))) 3 (.int .i64 (plcE k Wn Hn t s (U + 1) (V + 1)))) (by simp)
        all_goals have hS : Hid (OcSt cb ob Wn Hn r k t s f (parM r (ocL k Wn Hn t s d i j) f f) w ((((w7.setCell ⟨pb, 0, none⟩ (.int .i64 (plcE k Wn Hn t s U V))).setCell ⟨pb, 1, none⟩ (.int .i64 (plcE k Wn Hn t s (U + 1) V))).setCell ⟨pb, 2, none⟩ (.int .i64 (plcE k Wn Hn t s U (V + 1)))).setCell ⟨pb, 3, none⟩ (.int .i64 (plcE k Wn Hn t s (U + 1) (V + 1))))) := hs'.four kb.1 kb.2.1 kb.2.2 (Nat.lt_of_succ_lt kb.1)
        all_goals (revert hS KP kb; generalize ((((w7.setCell ⟨pb, 0, none⟩ (.int .i64 (plcE k Wn Hn t s U V))).setCell ⟨pb, 1, none⟩ (.int .i64 (plcE k Wn Hn t s (U + 1) V))).setCell ⟨pb, 2, none⟩ (.int .i64 (plcE k Wn Hn t s U (V + 1)))).setCell ⟨pb, 3, none⟩ (.int .i64 (plcE k Wn Hn t s (U + 1) (V + 1)))) = WX; generalize pb = pb'; revert WX; revert pb'; exact rest)
      clear HX hdr hwr P00 P10 P01 P11 ht0
      intro pb WX kb KP hS
      have NS := Lib.hid kb
      have b1 : Hid (cb < pb) := kb.2.1
      clear kb
      rcases plc_four HEV.out hU0 hu1 hV0 hv1 with ⟨hin, B, hB, e0, e1, e2, e3, hbd⟩ | ⟨hin, hno⟩
      · rw [e0, e1, e2, e3] at KP
        have HB4 : Hid (∀ p ∈ B.cells, at_ f p = 0 ∨ at_ f p = 1) := fun p hp => HFB.out p (hbd p hp).1 (hbd p hp).2
        have ha := hbd B.a (by simp [Blk.cells]); have hb := hbd B.b (by simp [Blk.cells]); have hc := hbd B.c (by simp [Blk.cells]); have hd := hbd B.d (by simp [Blk.cells])
        obtain ⟨φ, hφ, hφ2⟩ : ∃ φ : Nat, frm f B = (φ : Int) ∧ φ < 16 := ⟨(frm f B).toNat, by have := frm_bd HB4.out; omega, by have := frm_bd HB4.out; omega⟩
        obtain ⟨va, ea, la⟩ : ∃ σ : Nat, at_ f B.a = (σ : Int) ∧ σ < 2 := by rcases HFB.out B.a ha.1 ha.2 with e | e; exact ⟨0, e, by omega⟩; exact ⟨1, e, by omega⟩
        obtain ⟨vb, eb, lb⟩ : ∃ σ : Nat, at_ f B.b = (σ : Int) ∧ σ < 2 := by rcases HFB.out B.b hb.1 hb.2 with e | e; exact ⟨0, e, by omega⟩; exact ⟨1, e, by omega⟩
        obtain ⟨vc, ec, lc⟩ : ∃ σ : Nat, at_ f B.c = (σ : Int) ∧ σ < 2 := by rcases HFB.out B.c hc.1 hc.2 with e | e; exact ⟨0, e, by omega⟩; exact ⟨1, e, by omega⟩
        obtain ⟨vd, ed, ld⟩ : ∃ σ : Nat, at_ f B.d = (σ : Int) ∧ σ < 2 := by rcases HFB.out B.d hd.1 hd.2 with e | e; exact ⟨0, e, by omega⟩; exact ⟨1, e, by omega⟩
        have Ca := hS.out.c.cell ha.1 ha.2; have Cb := hS.out.c.cell hb.1 hb.2; have Cc := hS.out.c.cell hc.1 hc.2; have Cd := hS.out.c.cell hd.1 hd.2
        rw [ea] at Ca; rw [eb] at Cb; rw [ec] at Cc; rw [ed] at Cd
        have la' : B.a.2 * Wn + B.a.1 < N := by rw [HN.out]; exact idx_lt ha.1 ha.2
        have lb' : B.b.2 * Wn + B.b.1 < N := by rw [HN.out]; exact idx_lt hb.1 hb.2
        have lc' : B.c.2 * Wn + B.c.1 < N := by rw [HN.out]; exact idx_lt hc.1 hc.2
        have ld' : B.d.2 * Wn + B.d.1 < N := by rw [HN.out]; exact idx_lt hd.1 hd.2
        have KPH := Lib.hid KP
        have HBD := Lib.hid hbd
        have hsum : (va : Int) + 2 * vb + 4 * vc + 8 * vd = φ := by rw [← hφ]; unfold frm; rw [ea, eb, ec, ed]
        have HPhi := Lib.hid hφ
        clear hbd ha hb hc hd ea eb ec ed hφ
        generalize hia : B.a.2 * Wn + B.a.1 = ia at *
        generalize hib : B.b.2 * Wn + B.b.1 = ib at *
        generalize hic : B.c.2 * Wn + B.c.1 = ic at *
        generalize hie : B.d.2 * Wn + B.d.1 = ie at *
        have Hia := Lib.hid hia; have Hib := Lib.hid hib; have Hic := Lib.hid hic; have Hie := Lib.hid hie
        clear e0 e1 e2 e3 hia hib hic hie
        have q1 : ¬ ((ib : Int) < 0) := by omega
        have q2 : ¬ ((ic : Int) < 0) := by omega
        have q3 : ¬ ((ie : Int) < 0) := by omega
        have hw1 : IntKind.u8.wrap (2 * (vb : Int)) = 2 * (vb : Int) := by rw [IntKind.wrap_u8]; omega
        have hw2 : IntKind.u8.wrap (4 * (vc : Int)) = 4 * (vc : Int) := by rw [IntKind.wrap_u8]; omega
        have hw3 : IntKind.u8.wrap (8 * (vd : Int)) = 8 * (vd : Int) := by rw [IntKind.wrap_u8]; omega
        have hw4 : IntKind.u8.wrap ((va : Int) + 2 * (vb : Int)) = (va : Int) + 2 * (vb : Int) := by rw [IntKind.wrap_u8]; omega
        have hw5 : IntKind.u8.wrap ((va : Int) + 2 * (vb : Int) + 4 * (vc : Int)) = (va : Int) + 2 * (vb : Int) + 4 * (vc : Int) := by rw [IntKind.wrap_u8]; omega
        have hw6 : IntKind.u8.wrap ((va : Int) + 2 * (vb : Int) + 4 * (vc : Int) + 8 * (vd : Int)) = (φ : Int) := by rw [hsum, IntKind.wrap_u8]; omega
        have kp := bk_cell KP
        go_wp2_with (first | fail)
        go_quiet (fail)
        have hS2 := Lib.hid (hS.out.below (bdrewN WX nq))
        have KP2 := Lib.hid (bk_drewN KPH.out nq)
        generalize WX.drewN nq = WY at *
        clear Ca Cb Cc Cd kp KP hS KPH hw1 hw2 hw3 hw4 hw5 hw6 hsum la' lb' lc' ld'
        have HRK := ruleOk HR.out HCK.out
        obtain ⟨v, hv, hv2⟩ : ∃ v : Nat, nth r φ = (v : Int) ∧ v < 16 := ⟨(nth r φ).toNat, by have := HRK.bd φ hφ2; omega, by have := HRK.bd φ hφ2; omega⟩
        have hld : WY.cell? ⟨w.heap.size, φ, none⟩ = some (.int .u8 (v : Nat)) := by rw [bk_cell hS2.out.r, arr_at (by rw [HRK.len]; exact hφ2), hv]
        have hφi : (φ : Int) < 16 := by omega
        have hφj : (0 : Int) ≤ (φ : Int) := by omega
        have HV := Lib.hid hv
        clear HRK hv
        go_wp2_with (first | fail)
        clear hld
        go_loopw [14, 15] (fun vq vm wz => ∃ m : Nat, vm = .int .i64 m ∧ m ≤ 4 ∧ vq = .int .u8 ((v / 2 ^ m : Nat) : Int) ∧ Hid (OcSt cb ob Wn Hn r k t s f (wrTo (parM r (ocL k Wn Hn t s d i j) f f) B v m) w wz) ∧ Hid (wz.heap[pb]? = some (.cells #[.int .i64 (ia : Nat), .int .i64 (ib : Nat), .int .i64 (ic : Nat), .int .i64 (ie : Nat)] 113 (0, 0)))) (fun _ vm _ => 4 - (intOf vm).toNat)
        case atStart => exact ⟨0, rfl, by omega, by simp, hS2.out, KP2.out⟩
        clear hS2 KP2
        obtain ⟨m, rfl, hm, rfl, HT, KQ⟩ := hrel
        by_cases hml : m < 4
        · have hmi : (m : Int) < 4 := by omega
          obtain ⟨im, kq, him⟩ : ∃ im : Nat, wr.cell? ⟨pb, m, none⟩ = some (.int .i64 (im : Nat)) ∧ im = (blkNth B m).2 * Wn + (blkNth B m).1 := by
            rw [bk_cell KQ.out]
            have : m = 0 ∨ m = 1 ∨ m = 2 ∨ m = 3 := by omega
            rcases this with rfl | rfl | rfl | rfl
            · exact ⟨ia, rfl, Hia.out.symm⟩
            · exact ⟨ib, rfl, Hib.out.symm⟩
            · exact ⟨ic, rfl, Hic.out.symm⟩
            · exact ⟨ie, rfl, Hie.out.symm⟩
          have hbm := HBD.out (blkNth B m) (blkNth_mem B m)
          have hil : im < N := by rw [him, HN.out]; exact idx_lt hbm.1 hbm.2
          have hfr := HT.out.o.free im
          have hca := HT.out.o.cell hbm.1 hbm.2
          rw [← him] at hca
          obtain ⟨q, hq⟩ : ∃ q, q = v / 2 ^ m := ⟨_, rfl⟩
          have hq16 : q < 16 := by rw [hq]; exact Nat.lt_of_le_of_lt (Nat.div_le_self _ _) hv2
          have hHq := Lib.hid hq
          have hHi := Lib.hid him
          have hHb := Lib.hid hbm
          rw [← hq]
          clear hq him hbm
          go_wp2_with (first | fail)
          go_roundw
          case rel => exact ⟨m + 1, by simp, by omega, by rw [Nat.pow_succ, ← Nat.div_div_eq_div_mul, ← hHq.out]; simp, by
            have h1 := HT.out.setO hcb.out hob'.out hHb.out.1 hHb.out.2 ((q % 2 : Nat) : Int)
            rw [← hHi.out] at h1
            show OcSt _ _ _ _ _ _ _ _ _ _ _ _
            rw [wrTo_succ hml, ← hHq.out]
            simpa using h1, bk_far KQ.out (by show pb ≠ ob; have := NS.out; omega) _⟩
          case measure => simp [intOf] <;> omega
        · have hmi : ¬ ((m : Int) < 4) := by omega
          go_wp2_with (first | fail)
          have HX2 : Hid (OcSt cb ob Wn Hn r k t s f (parM r (ocL k Wn Hn t s d i (j + 1)) f f) w wr) := by
            have h1 := HT.out
            rw [show m = 4 by omega] at h1
            show OcSt _ _ _ _ _ _ _ _ _ _ _ _
            rw [ocL_in (by rw [hU, hV]; exact hin), hU, hV, par_snoc, ← hB, HPhi.out, Int.toNat_natCast, HV.out]
            exact h1
          clear HT KQ
          subst hU hV
          go_roundw
          case rel => exact ⟨j + 1, by congr 1 <;> omega, by omega, HX2⟩
          case measure => simp [intOf] <;> omega
      · have HX2 : Hid (OcSt cb ob Wn Hn r k t s f (parM r (ocL k Wn Hn t s d i (j + 1)) f f) w WX) := by
          show OcSt _ _ _ _ _ _ _ _ _ _ _ _
          rw [ocL_out (by rw [hU, hV]; exact hin)]
          exact hS.out
        generalize plcE k Wn Hn t s U V = x0 at *
        generalize plcE k Wn Hn t s (U + 1) V = x1 at *
        generalize plcE k Wn Hn t s U (V + 1) = x2 at *
        generalize plcE k Wn Hn t s (U + 1) (V + 1) = x3 at *
        have kp := bk_cell KP
        clear hS
        subst hU hV
        by_cases h1 : x1 < 0
        · go_wp2_with (first | fail)
          go_roundw
          case rel => exact ⟨j + 1, by congr 1 <;> omega, by omega, HX2⟩
          case measure => simp [intOf] <;> omega
        · have h2 : x2 < 0 := by omega
          go_wp2_with (first | fail)
          go_roundw
          case rel => exact ⟨j + 1, by congr 1 <;> omega, by omega, HX2⟩
          case measure => simp [intOf] <;> omega
    · have hjj : j = wn := by omega
      have hu1 : ¬ ((d : Int) + 2 * (j : Int) < (Wn : Int)) := by have := E1.out; omega
      have HX2 : Hid (OcSt cb ob Wn Hn r k t s f (parM r (ocL k Wn Hn t s d (i + 1) 0) f f) w wr) := by
        show OcSt _ _ _ _ _ _ _ _ _ _ _ _
        rw [ocL_row E1.out, ← hjj]
        exact HX.out
      clear HX hjj
      go_wp2_with (first | fail)
      go_roundw
      case rel => exact ⟨i + 1, by congr 1 <;> omega, by omega, HX2⟩
      case measure => simp [intOf] <;> omega
  · have hii : i = hn := by omega
    have hv1 : ¬ ((d : Int) + 2 * (i : Int) < (Hn : Int)) := by have := E2.out; omega
    have HX2 : Hid (Flat ob Wn Hn (genM r (blkL k Wn Hn t s (g % 2)) f) wr) := by
      show Flat _ _ _ _ _
      have h1 := HS.out.o
      rw [hii, ocL_all E2.out, ← HD.out] at h1
      rw [gen_par r _ f f (fun _ _ _ _ => rfl) (good_L (by omega) (by omega) E1.out E2.out _).apart]
      exact h1
    have HL := Lib.hid HS.out.l
    clear HS hii
    go_wp2_with (first | fail)
    go_ret
    exact ⟨ob, c2, rfl, HX2.out, by omega, hc2, hc3, HL.out⟩
end Go.Proofs.Ytdpcmpfhjhbicaa
