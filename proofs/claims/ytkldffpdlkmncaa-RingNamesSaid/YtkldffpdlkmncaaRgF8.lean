/- ring: frame of uint8. Printed by wip/mkRgF.py. -/
import Derived.Test.YtkldffpdlkmncaaRgFk
set_option linter.unusedVariables false
set_option linter.unusedSimpArgs false
namespace Go.Proofs.Ytkldffpdlkmncaa
open Go.RowKit Go.Viv

def frF8 (k : Int) (W H : Nat) (t s : Int) (f : Nat → Nat → Int) (i : Nat) : Value := (Value.int .u8 (rgS k W H t s f (((i % (W + 2) : Nat) : Int) - 1) (((i / (W + 2) : Nat) : Int) - 1)))
theorem frF8_at {k : Int} {W H : Nat} {t s : Int} {f : Nat → Nat → Int} {u v : Nat} {x y : Int} (hu : u < W + 2) (hx : x = (u : Int) - 1) (hy : y = (v : Int) - 1) : frF8 k W H t s f ((W + 2) * v + u) = (Value.int .u8 (rgS k W H t s f x y)) := by
  unfold frF8
  rw [Nat.mul_add_mod, Nat.mod_eq_of_lt hu, Nat.mul_add_div (by omega), Nat.div_eq_of_lt hu, Nat.add_zero, hx, hy]

/-- what frame comes to -/
def FrameP8 (k : Int) (W H : Nat) (t s : Int) (f : Nat → Nat → Int) (w : World) (e : Ending) (w' : World) : Prop :=
  ∃ go, e = .returned (.slice (some ⟨go, 0, none⟩) ((W + 2) * (H + 2)) ((W + 2) * (H + 2))) ∧ w.heap.size ≤ go ∧ OutAt 5 go ((W + 2) * (H + 2)) (frF8 k W H t s f) (fun _ => True) w' ∧ Below w.heap.size w w'

set_option maxRecDepth 20000 in
set_option maxHeartbeats 8000000 in
theorem rgFrame8_calls {k t s St : Int} {W H g : Nat} {pk : Bool} {f : Nat → Nat → Int} {S : Nat → Prop} {w : World} (t0 : 0 ≤ t) (hk : checkE k W H t s = 0) (hF : Fld g ⟨W, H, St, pk, f⟩ S w) :
    Calls Try.prog 40 #[topoV k W H t s, .pointer (some ⟨g, 0, none⟩), .func (.func 41) #[] #[]] w (FrameP8 k W H t s f w) := by
  have ok := hF.ok
  have o1 : 0 < W := ok.w0
  have o2 : W ≤ 65536 := ok.w1
  have o3 : 0 < H := ok.h0
  have o4 : H ≤ 65536 := ok.h1
  have o5 : W * H ≤ 1048576 := ok.wh
  have KT := Lib.hid (bk_new w (.cells #[.int .u8 k, .int .i64 W, .int .i64 H, .int .u8 t, .int .i64 s] 23))
  have kt := bk_cell KT.out
  have hBw := boxed w (.cells #[.int .u8 k, .int .i64 W, .int .i64 H, .int .u8 t, .int .i64 s] 23)
  have HF := Lib.hid hF; have HK := Lib.hid hk
  obtain ⟨W2, hW2⟩ : ∃ W2, W + 2 = W2 := ⟨_, rfl⟩
  obtain ⟨H2, hH2⟩ : ∃ H2, H + 2 = H2 := ⟨_, rfl⟩
  obtain ⟨n, hn⟩ : ∃ n, W2 * H2 = n := ⟨_, rfl⟩
  have nb : n ≤ 4295229444 := by rw [← hn]; exact Nat.mul_le_mul (show W2 ≤ 65538 by omega) (show H2 ≤ 65538 by omega)
  have wW2 := rg_wrap (a := (W : Int) + 2) (b := (W2 : Int)) (by omega) (by omega) (by omega)
  have wH2 := rg_wrap (a := (H : Int) + 2) (b := (H2 : Int)) (by omega) (by omega) (by omega)
  have wn := rg_wrap (a := (W2 : Int) * (H2 : Int)) (b := (n : Int)) (by rw [← Int.natCast_mul, hn]) (by omega) (by omega)
  have hmk := run_makeN (P := Try.prog) Try.underlying32 u8info n (by omega) (by omega)
  simp only [Nat.mul_one] at hmk
  have HW2 := Lib.hid hW2; have HH2 := Lib.hid hH2; have HN := Lib.hid hn
  obtain ⟨wh, hwh⟩ : ∃ wh : Nat, W / 2 = wh := ⟨_, rfl⟩
  obtain ⟨hh, hhh⟩ : ∃ hh : Nat, H / 2 = hh := ⟨_, rfl⟩
  have dW : Int.tdiv (W : Int) 2 = (wh : Int) := by rw [Int.tdiv_eq_ediv_of_nonneg (by omega)]; omega
  have dH : Int.tdiv (H : Int) 2 = (hh : Int) := by rw [Int.tdiv_eq_ediv_of_nonneg (by omega)]; omega
  have HWH : Hid ((wh : Int) = (W : Int) / 2) := by show _ = _; omega
  have HHH : Hid ((hh : Int) = (H : Int) / 2) := by show _ = _; omega
  have hwb : wh ≤ W := by omega
  have hhb : hh ≤ H := by omega
  clear ok hF hk hW2 hH2 hn hwh hhh
  go_enter Try.func40, Try.ntmps40
  go_wp2_with (first | (go_at_call 41; ((with_reducible refine (hold8_calls _ _).mono ?_); rintro e w' ⟨rfl, rfl⟩)))
  have KO0 : Hid (OutAt 5 (w.heap.size + 1) n (frF8 k W H t s f) (fun i => i < 0) ((w.alloc (.cells #[.int .u8 k, .int .i64 W, .int .i64 H, .int .u8 t, .int .i64 s] 23)).alloc (.cells (madeCells #[(Value.int .u8 (0))] n) 5))) :=
    ⟨_, bk_newn _ _ _ (by simp), by simp [madeCells], fun i _ h => absurd h (by omega)⟩
  have KT0 := Lib.hid (bk_alloc KT.out (.cells (madeCells #[(Value.int .u8 (0))] n) 5))
  have HB0 := Lib.hid (hBw.alloc hBw.size (.cells (madeCells #[(Value.int .u8 (0))] n) 5))
  generalize hBOe : w.heap.size + 1 = BO at *
  have hBO : w.heap.size ≤ BO := by omega
  have hBTO : w.heap.size ≠ BO := by omega
  clear hBOe KT kt hBw hmk
  generalize ((w.alloc (.cells #[.int .u8 k, .int .i64 W, .int .i64 H, .int .u8 t, .int .i64 s] 23)).alloc (.cells (madeCells #[(Value.int .u8 (0))] n) 5)) = W0 at *
  go_loopw [9] (fun vy wr => ∃ (v m0 : Nat) (y : Int), vy = .int .i64 y ∧ Hid (y = (v : Int) - 1) ∧ v ≤ H2 ∧ Hid (W2 * v = m0) ∧ Hid (wr.heap[w.heap.size]? = some (.cells #[.int .u8 k, .int .i64 W, .int .i64 H, .int .u8 t, .int .i64 s] 23 (0, 0))) ∧ Hid (OutAt 5 BO n (frF8 k W H t s f) (fun i => i < m0) wr) ∧ Hid (Below w.heap.size w wr)) (fun vy _ => H2 - (intOf vy + 1).toNat)
  case atStart => exact ⟨0, 0, -1, rfl, rfl, by omega, rfl, KT0, KO0, HB0⟩
  clear KT0 KO0 HB0
  obtain ⟨v, m0, y, rfl, HY, hv, HM0, KT1, HO1, HB1⟩ := hrel
  refine wp_hideQ fun Q1 hQ1 => ?_
  have kt1 := bk_cell KT1.out
  by_cases hvl : v < H2
  · have hyH : y ≤ (H : Int) := by have := HY.out; have := HH2.out; omega
    have hy1 := rg_wrap (a := y + 1) (b := (v : Int)) (by have := HY.out; omega) (by omega) (by have := HH2.out; omega)
    have hm0n : m0 + W2 ≤ n := by
      rw [← HM0.out, ← HN.out]
      exact Nat.mul_le_mul_left W2 (show v + 1 ≤ H2 by omega)
    have hw2p : 2 < W2 := by have := HW2.out; omega
    obtain ⟨m1, hm1⟩ : ∃ m1, m0 + W2 = m1 := ⟨_, rfl⟩
    have hwm0 := rg_wrap (a := (v : Int) * (W2 : Int)) (b := (m0 : Int)) (by rw [← HM0.out, Int.natCast_mul, Int.mul_comm]) (by omega) (by omega)
    obtain ⟨v1, hv1⟩ : ∃ v1, v + 1 = v1 := ⟨_, rfl⟩
    have hy2 := rg_wrap (a := y + 2) (b := (v1 : Int)) (by have := HY.out; omega) (by omega) (by have := HH2.out; omega)
    have hwm1 := rg_wrap (a := (v1 : Int) * (W2 : Int)) (b := (m1 : Int)) (by rw [← hm1, ← HM0.out, ← hv1, ← Int.natCast_mul, Nat.succ_mul, Nat.mul_comm]) (by omega) (by omega)
    have hm1n : m1 ≤ n := by omega
    have hm01 : m0 ≤ m1 := by omega
    have hm0l : m0 < n := by omega
    have HM1 := Lib.hid hm1; have HV1 := Lib.hid hv1
    have hyb : -1 ≤ y ∧ y ≤ 65537 := by have := HY.out; have := HH2.out; omega
    have HYB := Lib.hid hyb
    clear hm1 hv1 hm0n hyb
    by_cases y0 : 0 ≤ y
    rotate_left
    · go_wp2_with (first | fail)
      rw [show m1 - m0 = W2 by have := HM1.out; omega]
      go_loopw [16] (fun vx wr => ∃ (u : Nat) (x : Int), vx = .int .i64 x ∧ Hid (x = (u : Int) - 1) ∧ u ≤ W2 ∧ Hid (wr.heap[w.heap.size]? = some (.cells #[.int .u8 k, .int .i64 W, .int .i64 H, .int .u8 t, .int .i64 s] 23 (0, 0))) ∧ Hid (OutAt 5 BO n (frF8 k W H t s f) (fun i => i < m0 + u) wr) ∧ Hid (Below w.heap.size w wr)) (fun vx _ => W2 - (intOf vx + 1).toNat)
      case atStart => exact ⟨0, -1, rfl, rfl, by omega, KT1.out, HO1.out.mono (fun i hi hp => by simpa using hp), HB1.out⟩
      clear KT1 HO1 HB1 kt1
      obtain ⟨u, x, rfl, HX, hu, KT1, HO1, HB1⟩ := hrel
      refine wp_hideQ fun Q2 hQ2 => ?_
      have kt1 := bk_cell KT1.out
      by_cases hul : u < W2
      · have hxW : x ≤ (W : Int) := by have := HX.out; have := HW2.out; omega
        have hx1 := rg_wrap (a := x + 1) (b := (u : Int)) (by have := HX.out; omega) (by omega) (by have := HW2.out; omega)
        obtain ⟨px, hpx⟩ : ∃ px : Int, x - (wh : Int) = px := ⟨_, rfl⟩
        obtain ⟨py, hpy⟩ : ∃ py : Int, y - (hh : Int) = py := ⟨_, rfl⟩
        have hpx1 := rg_wrap hpx (by have := HX.out; have := HW2.out; omega) (by have := HX.out; have := HW2.out; omega)
        have hpy1 := rg_wrap hpy (by have := HYB.out; omega) (by have := HYB.out; omega)
        have hmu : m0 + u < n := by have := HM1.out; omega
        obtain ⟨r1, r2, r3, r4⟩ := rgRing (u := x) (v := y) HK.out t0 (by omega) (by omega) (by omega) (by omega) (by have := HX.out; have := HW2.out; omega) (by have := HY.out; have := HH2.out; omega) (x := px) (y := py) (by rw [← hpx, HWH.out]) (by rw [← hpy, HHH.out])
        have HRS : Hid ((frF8 k W H t s f) (m0 + u) = (Value.int .u8 (rgS k W H t s f x y))) := by have := HX.out; have := HY.out; show _ = _; rw [← HM0.out, ← HW2.out]; exact frF8_at (by have := HW2.out; omega) (by omega) (by omega)
        have CR := fun w => Ring_calls k W H t s px py w t0
        rw [r1, r2] at CR
        obtain ⟨co, hco⟩ := HO1.out.cell hmu
        have hfo := HO1.out.free (m0 + u)
        have HO2 := Lib.hid (HO1.out.put (j := m0 + u) (by omega) ((Value.int .u8 (0))))
        have KT2 := Lib.hid (bk_far KT1.out (p := ⟨BO, m0 + u, none⟩) hBTO ((Value.int .u8 (0))))
        have kt2 := bk_cell KT2.out
        have HB2 := Lib.hid (HB1.out.setCell (p := ⟨BO, m0 + u, none⟩) hBO ((Value.int .u8 (0))))
        generalize hRx : ringX k W H t s px py = qx at *
        generalize hRy : ringY k W H t s px py = qy at *
        clear hRx hRy r1 r2 hpx hpy
        cases hb : rgOn k W H x y
        · obtain ⟨rfl, rfl⟩ := r4 hb
          have HE : Hid ((Value.int .u8 (0)) = (frF8 k W H t s f) (m0 + u)) := by show _ = _; rw [HRS.out]; unfold rgS; rw [hb]; rfl
          rw [hb] at CR
          have CR := Lib.hid CR
          have HO2 := Lib.hid (HO1.out.set (j := m0 + u) HE.out)
          clear r3 r4 hb
          go_wp2_with (first | (go_at_call 23; ((with_reducible refine (CR.out _).mono ?_); rintro e w2 ⟨rfl, hb2⟩; have KT3 := Lib.hid (bk_below KT2.out hb2); have HO3 := Lib.hid (HO2.out.below hb2); have HB3 := Lib.hid (next HB2.out hb2); have kt3 := bk_cell (bk_alloc KT3.out (.cells #[.int .i64 0, .int .i64 0] 56)); have kp3 := bk_cell (bk_new w2 (.cells #[.int .i64 0, .int .i64 0] 56)))))
          have KT4 := Lib.hid (bk_alloc KT3.out (.cells #[.int .i64 0, .int .i64 0] 56))
          have HO4 := Lib.hid (HO3.out.below (boxed w2 (.cells #[.int .i64 0, .int .i64 0] 56)))
          have HB4 := Lib.hid (HB3.out.alloc HB3.out.size (.cells #[.int .i64 0, .int .i64 0] 56))
          refine hQ2.out _ _ _ ?_
          refine And.intro ?_ ?measure
          (repeat apply Exists.intro)
          refine ⟨?rel, rfl⟩
          case rel => exact ⟨u + 1, (u : Int), by first | rfl | go_num, by show _ = _; omega, by omega, KT4.out, HO4.out.mono (fun i _ hi => by first | omega | (rcases hi with hi | hi <;> omega)), HB4.out⟩
          case measure => have := HX.out; simp [intOf]; omega
        · obtain ⟨⟨e1, e2⟩, e3, e4⟩ := r3 hb
          obtain ⟨U, hU⟩ : ∃ U : Int, rgU k W H t s x y = U := ⟨_, rfl⟩
          obtain ⟨V, hV⟩ : ∃ V : Int, rgV k W H t s x y = V := ⟨_, rfl⟩
          rw [hU] at e1 e3; rw [hV] at e2 e4
          have hq1 := rg_wrap (a := qx + (wh : Int)) (b := U) (by have := HWH.out; omega) (by omega) (by omega)
          have hq2 := rg_wrap (a := qy + (hh : Int)) (b := V) (by have := HHH.out; omega) (by omega) (by omega)
          obtain ⟨z, hz⟩ : ∃ z : Int, f V.toNat U.toNat = z := ⟨_, rfl⟩
          have HE : Hid ((Value.int .u8 (z)) = (frF8 k W H t s f) (m0 + u)) := by show _ = _; rw [HRS.out]; unfold rgS; rw [hb, if_pos rfl, hU, hV, hz]
          have hgv : getV ⟨W, H, St, pk, f⟩ U V = .tuple #[.int .u8 z, .int .i64 0] := by unfold getV; rw [if_pos (hasB_yes e3.1 e3.2 e4.1 e4.2)]; show Value.tuple #[.int .u8 (f V.toNat U.toNat), .int .i64 0] = _; rw [hz]
          have HGV := Lib.hid hgv
          rw [hb] at CR
          have CR := Lib.hid CR
          clear r3 r4 hb hgv e1 e2 e3 e4 hU hV hz
          go_wp2_with (first | (go_at_call 23; ((with_reducible refine (CR.out _).mono ?_); rintro e w2 ⟨rfl, hb2⟩; have KT3 := Lib.hid (bk_below KT2.out hb2); have HO3 := Lib.hid (HO2.out.below hb2); have HB3 := Lib.hid (next HB2.out hb2); have kt3 := bk_cell (bk_alloc KT3.out (.cells #[.int .i64 qx, .int .i64 qy] 56)); have kp3 := bk_cell (bk_new w2 (.cells #[.int .i64 qx, .int .i64 qy] 56)))) | (go_at_call 24; ((with_reducible refine (Get_calls U V (HF.out.below (HB3.out.alloc HB3.out.size (.cells #[.int .i64 qx, .int .i64 qy] 56)))).mono ?_); rintro e w4 ⟨rfl, hb4⟩; rw [HGV.out]; have KT5 := Lib.hid (bk_below (bk_alloc KT3.out (.cells #[.int .i64 qx, .int .i64 qy] 56)) hb4); have HO5 := Lib.hid ((HO3.out.below (boxed w2 (.cells #[.int .i64 qx, .int .i64 qy] 56))).below hb4); have HB5 := Lib.hid (next (HB3.out.alloc HB3.out.size (.cells #[.int .i64 qx, .int .i64 qy] 56)) hb4); obtain ⟨co5, hco5⟩ := HO5.out.cell hmu; have hfo5 := HO5.out.free (m0 + u))) | (go_at_call 41; ((with_reducible refine (hold8_calls _ _).mono ?_); rintro e w6 ⟨rfl, rfl⟩)))
          have KT4 := Lib.hid (bk_far KT5.out (p := ⟨BO, m0 + u, none⟩) hBTO ((Value.int .u8 (z))))
          have HO4 := Lib.hid (HO5.out.set (j := m0 + u) HE.out)
          have HB4 := Lib.hid (HB5.out.setCell (p := ⟨BO, m0 + u, none⟩) hBO ((Value.int .u8 (z))))
          refine hQ2.out _ _ _ ?_
          refine And.intro ?_ ?measure
          (repeat apply Exists.intro)
          refine ⟨?rel, rfl⟩
          case rel => exact ⟨u + 1, (u : Int), by first | rfl | go_num, by show _ = _; omega, by omega, KT4.out, HO4.out.mono (fun i _ hi => by first | omega | (rcases hi with hi | hi <;> omega)), HB4.out⟩
          case measure => have := HX.out; simp [intOf]; omega
      · have hxW : ¬ (x ≤ (W : Int)) := by have := HX.out; have := HW2.out; omega
        go_wp2_with (first | fail)
        refine hQ2.out _ _ _ ?_
        simp only [Exit.then, Exit.inBlock]
        go_wp2_with (first | fail)
        refine hQ1.out _ _ _ ?_
        refine And.intro ?_ ?measure
        (repeat apply Exists.intro)
        refine ⟨?rel, rfl⟩
        case rel => exact ⟨v + 1, m1, (v : Int), by first | rfl | go_num, by show _ = _; omega, by omega, by show _ = _; rw [← HM1.out, ← HM0.out, Nat.mul_succ], KT1.out, HO1.out.mono (fun i _ hi => by have := HM1.out; omega), HB1.out⟩
        case measure => have := HY.out; simp [intOf]; omega
    by_cases y1 : y < (H : Int)
    rotate_left
    · go_wp2_with (first | fail)
      rw [show m1 - m0 = W2 by have := HM1.out; omega]
      go_loopw [16] (fun vx wr => ∃ (u : Nat) (x : Int), vx = .int .i64 x ∧ Hid (x = (u : Int) - 1) ∧ u ≤ W2 ∧ Hid (wr.heap[w.heap.size]? = some (.cells #[.int .u8 k, .int .i64 W, .int .i64 H, .int .u8 t, .int .i64 s] 23 (0, 0))) ∧ Hid (OutAt 5 BO n (frF8 k W H t s f) (fun i => i < m0 + u) wr) ∧ Hid (Below w.heap.size w wr)) (fun vx _ => W2 - (intOf vx + 1).toNat)
      case atStart => exact ⟨0, -1, rfl, rfl, by omega, KT1.out, HO1.out.mono (fun i hi hp => by simpa using hp), HB1.out⟩
      clear KT1 HO1 HB1 kt1
      obtain ⟨u, x, rfl, HX, hu, KT1, HO1, HB1⟩ := hrel
      refine wp_hideQ fun Q2 hQ2 => ?_
      have kt1 := bk_cell KT1.out
      by_cases hul : u < W2
      · have hxW : x ≤ (W : Int) := by have := HX.out; have := HW2.out; omega
        have hx1 := rg_wrap (a := x + 1) (b := (u : Int)) (by have := HX.out; omega) (by omega) (by have := HW2.out; omega)
        obtain ⟨px, hpx⟩ : ∃ px : Int, x - (wh : Int) = px := ⟨_, rfl⟩
        obtain ⟨py, hpy⟩ : ∃ py : Int, y - (hh : Int) = py := ⟨_, rfl⟩
        have hpx1 := rg_wrap hpx (by have := HX.out; have := HW2.out; omega) (by have := HX.out; have := HW2.out; omega)
        have hpy1 := rg_wrap hpy (by have := HYB.out; omega) (by have := HYB.out; omega)
        have hmu : m0 + u < n := by have := HM1.out; omega
        obtain ⟨r1, r2, r3, r4⟩ := rgRing (u := x) (v := y) HK.out t0 (by omega) (by omega) (by omega) (by omega) (by have := HX.out; have := HW2.out; omega) (by have := HY.out; have := HH2.out; omega) (x := px) (y := py) (by rw [← hpx, HWH.out]) (by rw [← hpy, HHH.out])
        have HRS : Hid ((frF8 k W H t s f) (m0 + u) = (Value.int .u8 (rgS k W H t s f x y))) := by have := HX.out; have := HY.out; show _ = _; rw [← HM0.out, ← HW2.out]; exact frF8_at (by have := HW2.out; omega) (by omega) (by omega)
        have CR := fun w => Ring_calls k W H t s px py w t0
        rw [r1, r2] at CR
        obtain ⟨co, hco⟩ := HO1.out.cell hmu
        have hfo := HO1.out.free (m0 + u)
        have HO2 := Lib.hid (HO1.out.put (j := m0 + u) (by omega) ((Value.int .u8 (0))))
        have KT2 := Lib.hid (bk_far KT1.out (p := ⟨BO, m0 + u, none⟩) hBTO ((Value.int .u8 (0))))
        have kt2 := bk_cell KT2.out
        have HB2 := Lib.hid (HB1.out.setCell (p := ⟨BO, m0 + u, none⟩) hBO ((Value.int .u8 (0))))
        generalize hRx : ringX k W H t s px py = qx at *
        generalize hRy : ringY k W H t s px py = qy at *
        clear hRx hRy r1 r2 hpx hpy
        cases hb : rgOn k W H x y
        · obtain ⟨rfl, rfl⟩ := r4 hb
          have HE : Hid ((Value.int .u8 (0)) = (frF8 k W H t s f) (m0 + u)) := by show _ = _; rw [HRS.out]; unfold rgS; rw [hb]; rfl
          rw [hb] at CR
          have CR := Lib.hid CR
          have HO2 := Lib.hid (HO1.out.set (j := m0 + u) HE.out)
          clear r3 r4 hb
          go_wp2_with (first | (go_at_call 23; ((with_reducible refine (CR.out _).mono ?_); rintro e w2 ⟨rfl, hb2⟩; have KT3 := Lib.hid (bk_below KT2.out hb2); have HO3 := Lib.hid (HO2.out.below hb2); have HB3 := Lib.hid (next HB2.out hb2); have kt3 := bk_cell (bk_alloc KT3.out (.cells #[.int .i64 0, .int .i64 0] 56)); have kp3 := bk_cell (bk_new w2 (.cells #[.int .i64 0, .int .i64 0] 56)))))
          have KT4 := Lib.hid (bk_alloc KT3.out (.cells #[.int .i64 0, .int .i64 0] 56))
          have HO4 := Lib.hid (HO3.out.below (boxed w2 (.cells #[.int .i64 0, .int .i64 0] 56)))
          have HB4 := Lib.hid (HB3.out.alloc HB3.out.size (.cells #[.int .i64 0, .int .i64 0] 56))
          refine hQ2.out _ _ _ ?_
          refine And.intro ?_ ?measure
          (repeat apply Exists.intro)
          refine ⟨?rel, rfl⟩
          case rel => exact ⟨u + 1, (u : Int), by first | rfl | go_num, by show _ = _; omega, by omega, KT4.out, HO4.out.mono (fun i _ hi => by first | omega | (rcases hi with hi | hi <;> omega)), HB4.out⟩
          case measure => have := HX.out; simp [intOf]; omega
        · obtain ⟨⟨e1, e2⟩, e3, e4⟩ := r3 hb
          obtain ⟨U, hU⟩ : ∃ U : Int, rgU k W H t s x y = U := ⟨_, rfl⟩
          obtain ⟨V, hV⟩ : ∃ V : Int, rgV k W H t s x y = V := ⟨_, rfl⟩
          rw [hU] at e1 e3; rw [hV] at e2 e4
          have hq1 := rg_wrap (a := qx + (wh : Int)) (b := U) (by have := HWH.out; omega) (by omega) (by omega)
          have hq2 := rg_wrap (a := qy + (hh : Int)) (b := V) (by have := HHH.out; omega) (by omega) (by omega)
          obtain ⟨z, hz⟩ : ∃ z : Int, f V.toNat U.toNat = z := ⟨_, rfl⟩
          have HE : Hid ((Value.int .u8 (z)) = (frF8 k W H t s f) (m0 + u)) := by show _ = _; rw [HRS.out]; unfold rgS; rw [hb, if_pos rfl, hU, hV, hz]
          have hgv : getV ⟨W, H, St, pk, f⟩ U V = .tuple #[.int .u8 z, .int .i64 0] := by unfold getV; rw [if_pos (hasB_yes e3.1 e3.2 e4.1 e4.2)]; show Value.tuple #[.int .u8 (f V.toNat U.toNat), .int .i64 0] = _; rw [hz]
          have HGV := Lib.hid hgv
          rw [hb] at CR
          have CR := Lib.hid CR
          clear r3 r4 hb hgv e1 e2 e3 e4 hU hV hz
          go_wp2_with (first | (go_at_call 23; ((with_reducible refine (CR.out _).mono ?_); rintro e w2 ⟨rfl, hb2⟩; have KT3 := Lib.hid (bk_below KT2.out hb2); have HO3 := Lib.hid (HO2.out.below hb2); have HB3 := Lib.hid (next HB2.out hb2); have kt3 := bk_cell (bk_alloc KT3.out (.cells #[.int .i64 qx, .int .i64 qy] 56)); have kp3 := bk_cell (bk_new w2 (.cells #[.int .i64 qx, .int .i64 qy] 56)))) | (go_at_call 24; ((with_reducible refine (Get_calls U V (HF.out.below (HB3.out.alloc HB3.out.size (.cells #[.int .i64 qx, .int .i64 qy] 56)))).mono ?_); rintro e w4 ⟨rfl, hb4⟩; rw [HGV.out]; have KT5 := Lib.hid (bk_below (bk_alloc KT3.out (.cells #[.int .i64 qx, .int .i64 qy] 56)) hb4); have HO5 := Lib.hid ((HO3.out.below (boxed w2 (.cells #[.int .i64 qx, .int .i64 qy] 56))).below hb4); have HB5 := Lib.hid (next (HB3.out.alloc HB3.out.size (.cells #[.int .i64 qx, .int .i64 qy] 56)) hb4); obtain ⟨co5, hco5⟩ := HO5.out.cell hmu; have hfo5 := HO5.out.free (m0 + u))) | (go_at_call 41; ((with_reducible refine (hold8_calls _ _).mono ?_); rintro e w6 ⟨rfl, rfl⟩)))
          have KT4 := Lib.hid (bk_far KT5.out (p := ⟨BO, m0 + u, none⟩) hBTO ((Value.int .u8 (z))))
          have HO4 := Lib.hid (HO5.out.set (j := m0 + u) HE.out)
          have HB4 := Lib.hid (HB5.out.setCell (p := ⟨BO, m0 + u, none⟩) hBO ((Value.int .u8 (z))))
          refine hQ2.out _ _ _ ?_
          refine And.intro ?_ ?measure
          (repeat apply Exists.intro)
          refine ⟨?rel, rfl⟩
          case rel => exact ⟨u + 1, (u : Int), by first | rfl | go_num, by show _ = _; omega, by omega, KT4.out, HO4.out.mono (fun i _ hi => by first | omega | (rcases hi with hi | hi <;> omega)), HB4.out⟩
          case measure => have := HX.out; simp [intOf]; omega
      · have hxW : ¬ (x ≤ (W : Int)) := by have := HX.out; have := HW2.out; omega
        go_wp2_with (first | fail)
        refine hQ2.out _ _ _ ?_
        simp only [Exit.then, Exit.inBlock]
        go_wp2_with (first | fail)
        refine hQ1.out _ _ _ ?_
        refine And.intro ?_ ?measure
        (repeat apply Exists.intro)
        refine ⟨?rel, rfl⟩
        case rel => exact ⟨v + 1, m1, (v : Int), by first | rfl | go_num, by show _ = _; omega, by omega, by show _ = _; rw [← HM1.out, ← HM0.out, Nat.mul_succ], KT1.out, HO1.out.mono (fun i _ hi => by have := HM1.out; omega), HB1.out⟩
        case measure => have := HY.out; simp [intOf]; omega
    · obtain ⟨yn, hyn⟩ : ∃ yn : Nat, y = (yn : Int) := Int.eq_ofNat_of_zero_le y0
      have hynH : yn < H := by omega
      have CL := fun w (h : Fld g ⟨W, H, St, pk, f⟩ S w) => Line_yes yn h hynH
      rw [← hyn] at CL
      have CL := Lib.hid CL
      have HYN := Lib.hid hyn
      clear hyn
      go_wp2_with (first | fail)
      rw [show m1 - m0 = W2 by have := HM1.out; omega]
      refine (CL.out _ (HF.out.below HB1.out)).mono ?_
      rintro e wl ⟨gl, cl, rfl, hgl, KL, hcl, hbl⟩
      have KTl := Lib.hid (bk_below KT1.out hbl)
      have HOl := Lib.hid (HO1.out.below hbl)
      have HBl := Lib.hid (next HB1.out hbl)
      have hmk2 := run_makeN (P := Try.prog) Try.underlying32 u8info W (by omega) (by omega)
      simp only [Nat.mul_one] at hmk2
      have hclq : Hid (∀ j, j < W → cl[j]? = some (.int .u8 (f yn j))) := fun j hj => by
        have e : cl.toList[j]? = some (.int .u8 (f yn j)) := by rw [hcl, List.getElem?_map, rowI_at (D := ⟨W, H, St, pk, f⟩) hj]; rfl
        simpa using e
      have hcls : Hid (cl.size = W) := by show _ = _; rw [← Array.length_toList, hcl, List.length_map, rowI_length]
      have KLa := Lib.hid (bk_alloc KL (.cells (madeCells #[(Value.int .u8 (0))] W) 5))
      have KTa := Lib.hid (bk_alloc KTl.out (.cells (madeCells #[(Value.int .u8 (0))] W) 5))
      have HOa := Lib.hid (HOl.out.below (boxed wl (.cells (madeCells #[(Value.int .u8 (0))] W) 5)))
      have HBa := Lib.hid (HBl.out.alloc HBl.out.size (.cells (madeCells #[(Value.int .u8 (0))] W) 5))
      have HHa : Hid (OutAt 5 wl.heap.size W (fun q => (Value.int .u8 (f yn q))) (fun q => q < 0) (wl.alloc (.cells (madeCells #[(Value.int .u8 (0))] W) 5))) :=
        ⟨_, bk_new _ _, by simp [madeCells], fun i _ h => absurd h (by omega)⟩
      obtain ⟨BH, hBH⟩ : ∃ BH, wl.heap.size = BH := ⟨_, rfl⟩
      have hBHge : w.heap.size ≤ BH := by rw [← hBH]; exact HBl.out.size
      have hBHO : BO ≠ BH := by have := HOl.out.lt; omega
      have hBHT : w.heap.size ≠ BH := by have := bk_lt KTl.out; omega
      have hBHg : gl ≠ BH := by have := bk_lt KL; omega
      have HBHg := Lib.hid hBHg; have HBHO := Lib.hid hBHO; have HBHT := Lib.hid hBHT; have HBHge := Lib.hid hBHge
      rw [hBH] at HHa
      clear hcl hgl KL KTl HOl KT1 HO1 HB1 hbl hBHge hBHO hBHT hBHg kt1
      go_wp2_with (first | fail)
      try rw [hBH]
      clear hBH
      generalize (wl.alloc (.cells (madeCells #[(Value.int .u8 (0))] W) 5)) = W3 at *
      clear HBl hmk2
      go_loopw [71] (fun vj wr => ∃ j : Nat, vj = .int .i64 (j : Int) ∧ j ≤ W ∧ Hid (wr.heap[gl]? = some (.cells cl 5 (0, 0))) ∧ Hid (OutAt 5 BH W (fun q => (Value.int .u8 (f yn q))) (fun q => q < j) wr) ∧ Hid (wr.heap[w.heap.size]? = some (.cells #[.int .u8 k, .int .i64 W, .int .i64 H, .int .u8 t, .int .i64 s] 23 (0, 0))) ∧ Hid (OutAt 5 BO n (frF8 k W H t s f) (fun i => i < m0) wr) ∧ Hid (Below w.heap.size w wr)) (fun vj _ => W - (intOf vj).toNat)
      case atStart => exact ⟨0, rfl, by omega, KLa, HHa, KTa, HOa, HBa⟩
      clear KLa HHa KTa HOa HBa
      obtain ⟨j, rfl, hj, KL, HH, KT1, HO1, HB1⟩ := hrel
      refine wp_hideQ fun Q3 hQ3 => ?_
      by_cases hjl : j < W
      · have hji : (j : Int) < (W : Int) := by omega
        have kl := bk_cell KL.out j
        rw [hclq.out j hjl] at kl
        obtain ⟨ch, hch⟩ := HH.out.cell hjl
        have hfh := HH.out.free j
        have KL4 := Lib.hid (bk_far KL.out (p := ⟨BH, j, none⟩) HBHg.out ((Value.int .u8 (f yn j))))
        have KT4 := Lib.hid (bk_far KT1.out (p := ⟨BH, j, none⟩) HBHT.out ((Value.int .u8 (f yn j))))
        have HH4 := Lib.hid (HH.out.set (j := j) (v := (Value.int .u8 (f yn j))) rfl)
        have HO4 : Hid (OutAt 5 BO n (frF8 k W H t s f) (fun i => i < m0) (wr.setCell ⟨BH, j, none⟩ ((Value.int .u8 (f yn j))))) := by
          obtain ⟨cs, a, b, c⟩ := HO1.out.ex
          exact ⟨cs, bk_far a (p := ⟨BH, j, none⟩) HBHO.out _, b, c⟩
        have HB4 := Lib.hid (HB1.out.setCell (p := ⟨BH, j, none⟩) HBHge.out ((Value.int .u8 (f yn j))))
        go_wp2_with (first | (go_at_call 41; ((with_reducible refine (hold8_calls _ _).mono ?_); rintro e w6 ⟨rfl, rfl⟩)))
        refine hQ3.out _ _ _ ?_
        refine And.intro ?_ ?measure
        (repeat apply Exists.intro)
        refine ⟨?rel, rfl⟩
        case rel => exact ⟨j + 1, by first | rfl | go_num, by omega, KL4.out, HH4.out.mono (fun i _ hi => by show _ ∨ _; omega), KT4.out, HO4.out, HB4.out⟩
        case measure => simp [intOf]; omega
      · obtain rfl : W = j := by omega
        have hji : ¬ ((W : Int) < (W : Int)) := by omega
        obtain ⟨ch, hch, hchs, hchq⟩ := HH.out.ex
        obtain ⟨co, hco, hcos, hcoq⟩ := HO1.out.ex
        have hCO : wr.heap[BO]? = some (.cells co.toList.toArray 5 (0, 0)) := by simpa using hco
        have hsrc : ∀ q v, ch.toList[q]? = some v → wr.cell? ((⟨BH, 0, none⟩ : Addr).add q) = some v := fun q v hq => by
          rw [rg_add, bk_cell hch]
          simpa using hq
        have h1c : ∀ v ∈ ch.toList, v.oneCell' = true := fun v hv => by
          obtain ⟨q, hq, rfl⟩ := List.mem_iff_getElem.1 hv
          have hq2 : q < W := by simpa [hchs] using hq
          have := hchq q hq2 hq2
          rw [Array.getElem?_eq_getElem (by omega)] at this
          have e2 : ch.toList[q] = (Value.int .u8 (f yn q)) := by simpa using this
          rw [e2]; rfl
        have hlen : ch.toList.length = W := by simpa using hchs
        have hlo : co.toList.length = n := by simpa using hcos
        have hBlt := bk_lt KT1.out
        have hw1 : 1 ≤ W2 := by omega
        have hfit : m0 + 1 + W ≤ n := by have := HM1.out; have := HW2.out; omega
        have hmin : Nat.min W (W2 - 1) = W := by show min W (W2 - 1) = W; have := HW2.out; omega
        have hnm : ¬ (n - m0 = 1) := by have := HW2.out; have := HM1.out; omega
        have hnm1 : (1 : Int) ≤ (W2 : Int) := by omega
        have hcp := run_copy_row (P := Try.prog) wr 32 32 3 5 BO (m0 + 1) (W2 - 1) (n - m0 - 1) ⟨BH, 0, none⟩ W W co.toList.toArray 5 ch.toList Try.underlying32 (by kernel_rfl) hCO (by rw [hlen, hmin]) hsrc (by simp; omega) h1c
        have h6 := setRow_heap wr BO co.toList.toArray (co.toList.toArray.toList.take (m0 + 1) ++ ch.toList ++ co.toList.toArray.toList.drop (m0 + 1 + ch.toList.length)).toArray 5 (0, 0) hCO
        have hb6 : Below BO wr (wr.setRow BO (co.toList.toArray.toList.take (m0 + 1) ++ ch.toList ++ co.toList.toArray.toList.drop (m0 + 1 + ch.toList.length)).toArray) := below_setRow (Below.refl _ _) (Nat.le_refl _) _
        generalize wr.setRow BO (co.toList.toArray.toList.take (m0 + 1) ++ ch.toList ++ co.toList.toArray.toList.drop (m0 + 1 + ch.toList.length)).toArray = w6 at *
        have ok := topoOk_of t0 HK.out
        have h6' : w6.heap[BO]? = some (.cells (splice co.toList (m0 + 1) ch.toList).toArray 5 (0, 0)) := by simpa [splice] using h6
        have HO6 := Lib.hid (OutAt.splice HO1.out hCO (off := m0 + 1) (cs := ch.toList) (by omega) (fun q hq => by
          have hq2 : q < W := by omega
          have a1 := hchq q hq2 hq2
          have a2 : ch.toList[q]? = some (Value.int .u8 (f yn q)) := by simpa using a1
          rw [a2]
          congr 1
          have a3 := frF8_at (k := k) (W := W) (H := H) (t := t) (s := s) (f := f) (u := q + 1) (v := v) (x := (q : Int)) (y := y) (by omega) (by omega) HY.out
          rw [HW2.out, HM0.out] at a3
          rw [show m0 + 1 + q = m0 + (q + 1) by omega, a3, HYN.out, rgS_in ok f (by omega) (by omega) (by omega) (by omega)]
          rfl) h6')
        rw [hlen] at HO6
        have KT6 := Lib.hid ((hb6.block w.heap.size (by omega)).trans KT1.out)
        have HB6 := Lib.hid (HB1.out.trans (hb6.mono hBO))
        have kt6 := bk_cell KT6.out
        clear hchq hco hcos hcoq hch hchs hCO hsrc h1c hlo hBlt hmin ok h6 h6' hb6 HO1 HH HB1 KL hj
        rw [hlen] at hcp
        clear hlen
        go_wp2_with (first | fail)
        refine hQ3.out _ _ _ ?_
        simp only [Exit.then, Exit.inBlock]
        go_wp2_with (first | fail)
        have KT1 := KT6; have HO1 := HO6; have HB1 := HB6
        clear KT6 HO6 HB6 kt6 hcp
        skip
        go_loopw [16] (fun vx wr => ∃ (u : Nat) (x : Int), vx = .int .i64 x ∧ Hid (x = (u : Int) - 1) ∧ u ≤ W2 ∧ Hid (wr.heap[w.heap.size]? = some (.cells #[.int .u8 k, .int .i64 W, .int .i64 H, .int .u8 t, .int .i64 s] 23 (0, 0))) ∧ Hid (OutAt 5 BO n (frF8 k W H t s f) (fun i => i < m0 + u ∨ (m0 + 1 ≤ i ∧ i < m0 + 1 + W)) wr) ∧ Hid (Below w.heap.size w wr)) (fun vx _ => W2 - (intOf vx + 1).toNat)
        case atStart => exact ⟨0, -1, rfl, rfl, by omega, KT1.out, HO1.out.mono (fun i hi hp => by simpa using hp), HB1.out⟩
        clear KT1 HO1 HB1
        obtain ⟨u, x, rfl, HX, hu, KT1, HO1, HB1⟩ := hrel
        refine wp_hideQ fun Q2 hQ2 => ?_
        have kt1 := bk_cell KT1.out
        by_cases hul : u < W2
        · have hxW : x ≤ (W : Int) := by have := HX.out; have := HW2.out; omega
          have hx1 := rg_wrap (a := x + 1) (b := (u : Int)) (by have := HX.out; omega) (by omega) (by have := HW2.out; omega)
          by_cases hin : 1 ≤ u ∧ u < W + 1
          · have x0 : 0 ≤ x := by have := HX.out; omega
            have x1 : x < (W : Int) := by have := HX.out; omega
            have hxw := rg_wrap (a := (W : Int) - 1) (b := ((W - 1 : Nat) : Int)) (by omega) (by omega) (by omega)
            have hxw1 := rg_wrap (a := ((W - 1 : Nat) : Int) + 1) (b := (W : Int)) (by omega) (by omega) (by omega)
            go_wp2_with (first | fail)
            refine hQ2.out _ _ _ ?_
            refine And.intro ?_ ?measure
            (repeat apply Exists.intro)
            refine ⟨?rel, rfl⟩
            case rel => exact ⟨W + 1, W, by first | rfl | go_num, by show _ = _; omega, by have := HW2.out; omega, KT1.out, HO1.out.mono (fun i _ hi => by have := HW2.out; omega), HB1.out⟩
            case measure => have := HX.out; have := HW2.out; simp [intOf]; omega
          have x01 : ¬ (0 ≤ x ∧ x < (W : Int)) := by have := HX.out; omega
          have hcase : x < 0 ∨ ¬ x < 0 ∧ ¬ x < (W : Int) := by omega
          obtain ⟨px, hpx⟩ : ∃ px : Int, x - (wh : Int) = px := ⟨_, rfl⟩
          obtain ⟨py, hpy⟩ : ∃ py : Int, y - (hh : Int) = py := ⟨_, rfl⟩
          have hpx1 := rg_wrap hpx (by have := HX.out; have := HW2.out; omega) (by have := HX.out; have := HW2.out; omega)
          have hpy1 := rg_wrap hpy (by have := HYB.out; omega) (by have := HYB.out; omega)
          have hmu : m0 + u < n := by have := HM1.out; omega
          obtain ⟨r1, r2, r3, r4⟩ := rgRing (u := x) (v := y) HK.out t0 (by omega) (by omega) (by omega) (by omega) (by have := HX.out; have := HW2.out; omega) (by have := HY.out; have := HH2.out; omega) (x := px) (y := py) (by rw [← hpx, HWH.out]) (by rw [← hpy, HHH.out])
          have HRS : Hid ((frF8 k W H t s f) (m0 + u) = (Value.int .u8 (rgS k W H t s f x y))) := by have := HX.out; have := HY.out; show _ = _; rw [← HM0.out, ← HW2.out]; exact frF8_at (by have := HW2.out; omega) (by omega) (by omega)
          have CR := fun w => Ring_calls k W H t s px py w t0
          rw [r1, r2] at CR
          obtain ⟨co, hco⟩ := HO1.out.cell hmu
          have hfo := HO1.out.free (m0 + u)
          have HO2 := Lib.hid (HO1.out.put (j := m0 + u) (by rintro (h | h) <;> omega) ((Value.int .u8 (0))))
          have KT2 := Lib.hid (bk_far KT1.out (p := ⟨BO, m0 + u, none⟩) hBTO ((Value.int .u8 (0))))
          have kt2 := bk_cell KT2.out
          have HB2 := Lib.hid (HB1.out.setCell (p := ⟨BO, m0 + u, none⟩) hBO ((Value.int .u8 (0))))
          generalize hRx : ringX k W H t s px py = qx at *
          generalize hRy : ringY k W H t s px py = qy at *
          clear hRx hRy r1 r2 hpx hpy
          cases hb : rgOn k W H x y
          · obtain ⟨rfl, rfl⟩ := r4 hb
            have HE : Hid ((Value.int .u8 (0)) = (frF8 k W H t s f) (m0 + u)) := by show _ = _; rw [HRS.out]; unfold rgS; rw [hb]; rfl
            rw [hb] at CR
            have CR := Lib.hid CR
            have HO2 := Lib.hid (HO1.out.set (j := m0 + u) HE.out)
            clear r3 r4 hb
            rcases hcase with x0 | ⟨x0, x1⟩
            all_goals
              go_wp2_with (first | (go_at_call 23; ((with_reducible refine (CR.out _).mono ?_); rintro e w2 ⟨rfl, hb2⟩; have KT3 := Lib.hid (bk_below KT2.out hb2); have HO3 := Lib.hid (HO2.out.below hb2); have HB3 := Lib.hid (next HB2.out hb2); have kt3 := bk_cell (bk_alloc KT3.out (.cells #[.int .i64 0, .int .i64 0] 56)); have kp3 := bk_cell (bk_new w2 (.cells #[.int .i64 0, .int .i64 0] 56)))))
              have KT4 := Lib.hid (bk_alloc KT3.out (.cells #[.int .i64 0, .int .i64 0] 56))
              have HO4 := Lib.hid (HO3.out.below (boxed w2 (.cells #[.int .i64 0, .int .i64 0] 56)))
              have HB4 := Lib.hid (HB3.out.alloc HB3.out.size (.cells #[.int .i64 0, .int .i64 0] 56))
              refine hQ2.out _ _ _ ?_
              refine And.intro ?_ ?measure
              (repeat apply Exists.intro)
              refine ⟨?rel, rfl⟩
              case rel => exact ⟨u + 1, (u : Int), by first | rfl | go_num, by show _ = _; omega, by omega, KT4.out, HO4.out.mono (fun i _ hi => by first | omega | (rcases hi with hi | hi <;> omega)), HB4.out⟩
              case measure => have := HX.out; simp [intOf]; omega
          · obtain ⟨⟨e1, e2⟩, e3, e4⟩ := r3 hb
            obtain ⟨U, hU⟩ : ∃ U : Int, rgU k W H t s x y = U := ⟨_, rfl⟩
            obtain ⟨V, hV⟩ : ∃ V : Int, rgV k W H t s x y = V := ⟨_, rfl⟩
            rw [hU] at e1 e3; rw [hV] at e2 e4
            have hq1 := rg_wrap (a := qx + (wh : Int)) (b := U) (by have := HWH.out; omega) (by omega) (by omega)
            have hq2 := rg_wrap (a := qy + (hh : Int)) (b := V) (by have := HHH.out; omega) (by omega) (by omega)
            obtain ⟨z, hz⟩ : ∃ z : Int, f V.toNat U.toNat = z := ⟨_, rfl⟩
            have HE : Hid ((Value.int .u8 (z)) = (frF8 k W H t s f) (m0 + u)) := by show _ = _; rw [HRS.out]; unfold rgS; rw [hb, if_pos rfl, hU, hV, hz]
            have hgv : getV ⟨W, H, St, pk, f⟩ U V = .tuple #[.int .u8 z, .int .i64 0] := by unfold getV; rw [if_pos (hasB_yes e3.1 e3.2 e4.1 e4.2)]; show Value.tuple #[.int .u8 (f V.toNat U.toNat), .int .i64 0] = _; rw [hz]
            have HGV := Lib.hid hgv
            rw [hb] at CR
            have CR := Lib.hid CR
            clear r3 r4 hb hgv e1 e2 e3 e4 hU hV hz
            rcases hcase with x0 | ⟨x0, x1⟩
            all_goals
              go_wp2_with (first | (go_at_call 23; ((with_reducible refine (CR.out _).mono ?_); rintro e w2 ⟨rfl, hb2⟩; have KT3 := Lib.hid (bk_below KT2.out hb2); have HO3 := Lib.hid (HO2.out.below hb2); have HB3 := Lib.hid (next HB2.out hb2); have kt3 := bk_cell (bk_alloc KT3.out (.cells #[.int .i64 qx, .int .i64 qy] 56)); have kp3 := bk_cell (bk_new w2 (.cells #[.int .i64 qx, .int .i64 qy] 56)))) | (go_at_call 24; ((with_reducible refine (Get_calls U V (HF.out.below (HB3.out.alloc HB3.out.size (.cells #[.int .i64 qx, .int .i64 qy] 56)))).mono ?_); rintro e w4 ⟨rfl, hb4⟩; rw [HGV.out]; have KT5 := Lib.hid (bk_below (bk_alloc KT3.out (.cells #[.int .i64 qx, .int .i64 qy] 56)) hb4); have HO5 := Lib.hid ((HO3.out.below (boxed w2 (.cells #[.int .i64 qx, .int .i64 qy] 56))).below hb4); have HB5 := Lib.hid (next (HB3.out.alloc HB3.out.size (.cells #[.int .i64 qx, .int .i64 qy] 56)) hb4); obtain ⟨co5, hco5⟩ := HO5.out.cell hmu; have hfo5 := HO5.out.free (m0 + u))) | (go_at_call 41; ((with_reducible refine (hold8_calls _ _).mono ?_); rintro e w6 ⟨rfl, rfl⟩)))
              have KT4 := Lib.hid (bk_far KT5.out (p := ⟨BO, m0 + u, none⟩) hBTO ((Value.int .u8 (z))))
              have HO4 := Lib.hid (HO5.out.set (j := m0 + u) HE.out)
              have HB4 := Lib.hid (HB5.out.setCell (p := ⟨BO, m0 + u, none⟩) hBO ((Value.int .u8 (z))))
              refine hQ2.out _ _ _ ?_
              refine And.intro ?_ ?measure
              (repeat apply Exists.intro)
              refine ⟨?rel, rfl⟩
              case rel => exact ⟨u + 1, (u : Int), by first | rfl | go_num, by show _ = _; omega, by omega, KT4.out, HO4.out.mono (fun i _ hi => by first | omega | (rcases hi with hi | hi <;> omega)), HB4.out⟩
              case measure => have := HX.out; simp [intOf]; omega
        · have hxW : ¬ (x ≤ (W : Int)) := by have := HX.out; have := HW2.out; omega
          go_wp2_with (first | fail)
          refine hQ2.out _ _ _ ?_
          simp only [Exit.then, Exit.inBlock]
          go_wp2_with (first | fail)
          refine hQ1.out _ _ _ ?_
          refine And.intro ?_ ?measure
          (repeat apply Exists.intro)
          refine ⟨?rel, rfl⟩
          case rel => exact ⟨v + 1, m1, (v : Int), by first | rfl | go_num, by show _ = _; omega, by omega, by show _ = _; rw [← HM1.out, ← HM0.out, Nat.mul_succ], KT1.out, HO1.out.mono (fun i _ hi => by have := HM1.out; omega), HB1.out⟩
          case measure => have := HY.out; simp [intOf]; omega
  · have hyH : ¬ (y ≤ (H : Int)) := by have := HY.out; have := HH2.out; omega
    have en : (W + 2) * (H + 2) = n := by rw [HW2.out, HH2.out, HN.out]
    have EN := Lib.hid en
    have e9 : m0 = n := by rw [← HM0.out, ← HN.out, show v = H2 by omega]
    have HO9 : Hid (OutAt 5 BO n (frF8 k W H t s f) (fun _ => True) wr) := HO1.out.mono (fun i hi _ => by omega)
    clear en e9
    go_wp2_with (first | fail)
    refine hQ1.out _ _ _ ?_
    simp only [Exit.then, Exit.inBlock]
    go_wp2_with (first | fail)
    go_ret
    unfold FrameP8
    rw [EN.out]
    exact ⟨BO, rfl, hBO, HO9.out, HB1.out⟩
end Go.Proofs.Ytkldffpdlkmncaa
