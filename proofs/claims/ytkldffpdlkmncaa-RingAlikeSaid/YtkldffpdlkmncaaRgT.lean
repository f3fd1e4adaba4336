/- RingGlues: the walk. -/
import Derived.Test.YtkldffpdlkmncaaRgQ
import Derived.Test.YtkldffpdlkmncaaRgS
import Derived.Test.YtkldffpdlkmncaaRgH
set_option linter.unusedVariables false
set_option linter.unusedSimpArgs false
namespace Go.Proofs.Ytkldffpdlkmncaa
open Go.RowKit Go.Viv

theorem OutAt.at_ {T : TypeId} {BO n j : Nat} {F : Nat → Value} {wr : World} {v : Value} (h : OutAt T BO n F (fun _ => True) wr) (hj : j < n ∧ F j = v) : wr.cell? ⟨BO, j, none⟩ = some v := by
  obtain ⟨cs, a, b, c⟩ := h.ex
  rw [bk_cell a, c j hj.1 trivial, hj.2]
/-- a frame's states, one line behind the other -/
def frL (k : Int) (W H : Nat) (t s : Int) (f : Nat → Nat → Int) : List Int := (List.range ((W + 2) * (H + 2))).map fun i => rgS k W H t s f (((i % (W + 2) : Nat) : Int) - 1) (((i / (W + 2) : Nat) : Int) - 1)
theorem frL_length (k : Int) (W H : Nat) (t s : Int) (f : Nat → Nat → Int) : (frL k W H t s f).length = (W + 2) * (H + 2) := by simp [frL]
theorem frL_at {k : Int} {W H : Nat} {t s : Int} {f : Nat → Nat → Int} {i : Nat} (h : i < (W + 2) * (H + 2)) : ((frL k W H t s f).map (Value.int .u8))[i]? = some (frF8 k W H t s f i) := by
  unfold frL
  rw [List.getElem?_map, List.getElem?_map, List.getElem?_range h]
  rfl
theorem small_frame {k : Int} {W H : Nat} {t s : Int} (h : Small k W H t s) : rgChE W H ((W + 2) * (H + 2)) = 0 := by
  have hm : (W : Int) * (H : Int) ≤ 9 * 9 := Int.mul_le_mul (by have := h.w9; omega) (by have := h.h9; omega) (by omega) (by omega)
  have hn : (((W + 2) * (H + 2) : Nat) : Int) = ((W : Int) + 2) * ((H : Int) + 2) := by simp [Int.natCast_mul]
  unfold rgChE
  rw [if_neg (by rw [hn]; have := h.w1; have := h.h1; have := h.w9; have := h.h9; omega)]

set_option maxRecDepth 20000 in
set_option maxHeartbeats 8000000 in
theorem RingGlues_walk (w : World) {K W0 H0 T S states : Int} {pk : Bool} {A : Option Addr} {n c : Nat} {l : List Int} (bK : -9223372036854775808 ≤ K ∧ K ≤ 9223372036854775807) (bW : -9223372036854775808 ≤ W0 ∧ W0 ≤ 9223372036854775807) (bH : -9223372036854775808 ≤ H0 ∧ H0 ≤ 9223372036854775807) (bT : -9223372036854775808 ≤ T ∧ T ≤ 9223372036854775807) (bS : -9223372036854775808 ≤ S ∧ S ≤ 9223372036854775807)
    (bst : -9223372036854775808 ≤ states ∧ states ≤ 9223372036854775807) (hn : l.length = n) (hnb : n ≤ 9223372036854775807) (hA : 0 < n → ∃ b off, A = some ⟨b, off, none⟩) (hr : Rd w A (l.map (.int .u8))) (hbl : ∀ z ∈ l, 0 ≤ z ∧ z ≤ 255) :
    Calls Try.prog 5 #[.agg #[.int .i64 K, .int .i64 W0, .int .i64 H0, .int .i64 T, .int .i64 S], .int .i64 states, .bool pk, .slice A n c] w (Ret (.bool true) w) := by
  have KG := Lib.hid (bk_new w (.cells #[.int .i64 K, .int .i64 W0, .int .i64 H0, .int .i64 T, .int .i64 S] 51))
  have HB0 := Lib.hid (boxed w (.cells #[.int .i64 K, .int .i64 W0, .int .i64 H0, .int .i64 T, .int .i64 S] 51))
  have C2 := Lib.hid (fun w => rgTopo_calls K W0 H0 T S w bK bW bH bT bS)
  have C3 : Hid (∀ (k t s : Int) (W H : Nat) w', Small k W H t s → Rd w' A (l.map (.int .u8)) → Calls Try.prog 22 #[topoV k W H t s, .int .i64 states, .bool pk, .slice A n c] w' (FilledP W H (filSt states pk) pk l w')) := fun k t s W H w' hs h => filled_calls states pk A n c l w' ⟨hs.w1, hs.w9⟩ ⟨hs.h1, hs.h9⟩ bst hn hnb hA h hbl
  have HR := Lib.hid hr
  clear bK bW bH bT bS bst hn hnb hA hr hbl
  go_enter Try.func5, Try.ntmps5
  go_wp2_with (first
    | (go_at_call 10; ((with_reducible refine (alive14 _).mono ?_); rintro e w1 ⟨rfl, hb1⟩; have KG1 := Lib.hid (bk_below KG.out hb1); have HB1 := Lib.hid (next HB0.out hb1); have kg1 := bk_cell KG1.out))
    | (go_at_call 21; ((with_reducible refine (C2.out _).mono ?_); rintro e w2 ⟨k, t, s, W, H, rfl, hsm, hb2⟩; have KT2 := Lib.hid (bk_new w2 (.cells #[.int .u8 k, .int .i64 W, .int .i64 H, .int .u8 t, .int .i64 s] 23)); have HB2 := Lib.hid ((next HB1.out hb2).alloc (next HB1.out hb2).size (.cells #[.int .u8 k, .int .i64 W, .int .i64 H, .int .u8 t, .int .i64 s] 23)); have kt2 := bk_cell KT2.out; have HSM := Lib.hid hsm)))
  clear hsm hb1 hb2 kg1 KG1 HB1 C2
  generalize w2.alloc (.cells #[.int .u8 k, .int .i64 W, .int .i64 H, .int .u8 t, .int .i64 s] 23) = W2 at *
  generalize w2.heap.size = BT at *
  refine (C3.out _ _ _ _ _ _ HSM.out (HR.out.below HB2.out)).mono ?_
  rintro e w3 ⟨g, SS, rfl, hF3, _, hb3⟩
  have KT3 := Lib.hid (bk_below KT2.out hb3)
  have HB3 := Lib.hid (next HB2.out hb3)
  have kt3 := bk_cell KT3.out
  have HF3 : Hid (Fld g ⟨W, H, filSt states pk, pk, keptF W (filSt states pk) l⟩ SS w3) := hF3
  clear hF3 hb3 KT2 HB2 kt2 C3
  generalize filSt states pk = St at *
  generalize keptF W St l = f at *
  go_wp2_with (first | fail)
  refine (rgBytes_yes HSM.out.t0 HSM.out.ok HF3.out).mono ?_
  rintro e w4 ⟨go, rfl, hgo, hO, hb4⟩
  obtain ⟨nn, hnn⟩ : ∃ nn, (W + 2) * (H + 2) = nn := ⟨_, rfl⟩
  rw [hnn] at hO ⊢
  have KA4 := Lib.hid (bk_new w4 (.cells #[.int .i64 W, .int .i64 H, .slice (some ⟨go, 0, none⟩) nn nn] 34))
  have KT4 := Lib.hid (bk_alloc (bk_below KT3.out hb4) (.cells #[.int .i64 W, .int .i64 H, .slice (some ⟨go, 0, none⟩) nn nn] 34))
  have HO4 := Lib.hid (hO.below (boxed w4 (.cells #[.int .i64 W, .int .i64 H, .slice (some ⟨go, 0, none⟩) nn nn] 34)))
  have HF4 := Lib.hid ((HF3.out.below hb4).below (boxed w4 (.cells #[.int .i64 W, .int .i64 H, .slice (some ⟨go, 0, none⟩) nn nn] 34)))
  have HB4 := Lib.hid ((next HB3.out hb4).alloc (next HB3.out hb4).size (.cells #[.int .i64 W, .int .i64 H, .slice (some ⟨go, 0, none⟩) nn nn] 34))
  have HCH : Hid (rgChE W H nn = 0) := by show _ = _; rw [← hnn]; exact small_frame HSM.out
  have ka4 := bk_cell KA4.out; have kt4 := bk_cell KT4.out
  have HNN := Lib.hid hnn
  clear hO hgo hb4 KT3 HB3 HF3 kt3 hnn
  go_wp2_with (first | fail)
  generalize w4.alloc (.cells #[.int .i64 W, .int .i64 H, .slice (some ⟨go, 0, none⟩) nn nn] 34) = W4 at *
  generalize w4.heap.size = BA at *
  refine (rgCheck_calls W H (some ⟨go, 0, none⟩) nn nn _).mono ?_
  rintro e w5 ⟨rfl, hb5⟩
  rw [HCH.out]
  have KA5 := Lib.hid (bk_below KA4.out hb5)
  have KT5 := Lib.hid (bk_below KT4.out hb5)
  have HO5 := Lib.hid (HO4.out.below hb5)
  have HF5 := Lib.hid (HF4.out.below hb5)
  have HB5 := Lib.hid (next HB4.out hb5)
  have ka5 := bk_cell KA5.out; have kt5 := bk_cell KT5.out
  clear hb5 KA4 KT4 HO4 HF4 HB4 ka4 kt4
  go_wp2_with (first | fail)
  obtain ⟨wh, hwh⟩ : ∃ wh : Nat, W / 2 = wh := ⟨_, rfl⟩
  obtain ⟨hh, hhh⟩ : ∃ hh : Nat, H / 2 = hh := ⟨_, rfl⟩
  have dW : Int.tdiv (W : Int) 2 = (wh : Int) := by rw [Int.tdiv_eq_ediv_of_nonneg (by omega)]; omega
  have dH : Int.tdiv (H : Int) 2 = (hh : Int) := by rw [Int.tdiv_eq_ediv_of_nonneg (by omega)]; omega
  have HWH : Hid ((wh : Int) = (W : Int) / 2) := by show _ = _; omega
  have HHH : Hid ((hh : Int) = (H : Int) / 2) := by show _ = _; omega
  have w1 := HSM.out.w1; have w9 := HSM.out.w9; have h1 := HSM.out.h1; have h9 := HSM.out.h9
  have hwb : wh ≤ W := by omega
  have hhb : hh ≤ H := by omega
  obtain ⟨V2, hV2⟩ : ∃ V2, W + 2 = V2 := ⟨_, rfl⟩
  have wV2 := ar_wrap (a := (W : Int) + 2) (b := (V2 : Int)) (by omega) (by omega) (by omega)
  have HV2 := Lib.hid hV2
  clear hwh hhh hV2 ka5 kt5
  go_loopw [15] (fun vy wr => ∃ (v : Nat) (y : Int), vy = .int .i64 y ∧ Hid (y = (v : Int) - 1) ∧ v ≤ H + 2 ∧ Hid (wr.heap[BT]? = some (.cells #[.int .u8 k, .int .i64 W, .int .i64 H, .int .u8 t, .int .i64 s] 23 (0, 0))) ∧ Hid (wr.heap[BA]? = some (.cells #[.int .i64 W, .int .i64 H, .slice (some ⟨go, 0, none⟩) nn nn] 34 (0, 0))) ∧ Hid (OutAt 5 go nn (frF8 k W H t s f) (fun _ => True) wr) ∧ Hid (Fld g ⟨W, H, St, pk, f⟩ SS wr) ∧ Hid (Below w.heap.size w wr)) (fun vy _ => H + 2 - (intOf vy + 1).toNat)
  case atStart => exact ⟨0, -1, rfl, rfl, by omega, KT5, KA5, HO5, HF5, HB5⟩
  clear KT5 KA5 HO5 HF5 HB5
  obtain ⟨v, y, rfl, HY, hv, KT, KA, HO, HF, HB⟩ := hrel
  refine wp_hideQ fun Q1 hQ1 => ?_
  have kt := bk_cell KT.out; have ka := bk_cell KA.out
  by_cases hvl : v < H + 2
  · have hyH : y ≤ (H : Int) := by have := HY.out; omega
    have hy1 := ar_wrap (a := y + 1) (b := (v : Int)) (by have := HY.out; omega) (by omega) (by omega)
    obtain ⟨m0, hm0⟩ : ∃ m0, V2 * v = m0 := ⟨_, rfl⟩
    have hm0n : m0 + V2 ≤ nn := by
      rw [← hm0, ← HNN.out, HV2.out]
      exact Nat.mul_le_mul_left V2 (show v + 1 ≤ H + 2 by omega)
    have hm0b : m0 ≤ 121 := by rw [← hm0, ← HV2.out]; exact Nat.mul_le_mul (show W + 2 ≤ 11 by omega) (show v ≤ 11 by omega)
    have hwm0 := ar_wrap (a := (v : Int) * (V2 : Int)) (b := (m0 : Int)) (by rw [← hm0, Int.natCast_mul, Int.mul_comm]) (by omega) (by omega)
    have HM0 := Lib.hid hm0
    have hyb : -1 ≤ y ∧ y ≤ 10 := by have := HY.out; omega
    have HYB := Lib.hid hyb
    clear hm0 hyb
    go_wp2_with (first | fail)
    go_loopw [16] (fun vx wr => ∃ (u : Nat) (x : Int), vx = .int .i64 x ∧ Hid (x = (u : Int) - 1) ∧ u ≤ V2 ∧ Hid (wr.heap[BT]? = some (.cells #[.int .u8 k, .int .i64 W, .int .i64 H, .int .u8 t, .int .i64 s] 23 (0, 0))) ∧ Hid (wr.heap[BA]? = some (.cells #[.int .i64 W, .int .i64 H, .slice (some ⟨go, 0, none⟩) nn nn] 34 (0, 0))) ∧ Hid (OutAt 5 go nn (frF8 k W H t s f) (fun _ => True) wr) ∧ Hid (Fld g ⟨W, H, St, pk, f⟩ SS wr) ∧ Hid (Below w.heap.size w wr)) (fun vx _ => V2 - (intOf vx + 1).toNat)
    case atStart => exact ⟨0, -1, rfl, rfl, by omega, KT, KA, HO, HF, HB⟩
    clear KT KA HO HF HB kt ka
    obtain ⟨u, x, rfl, HX, hu, KT, KA, HO, HF, HB⟩ := hrel
    refine wp_hideQ fun Q2 hQ2 => ?_
    have kt := bk_cell KT.out; have ka := bk_cell KA.out
    by_cases hul : u < V2
    · have hxW : x ≤ (W : Int) := by have := HX.out; have := HV2.out; omega
      have hx1 := ar_wrap (a := x + 1) (b := (u : Int)) (by have := HX.out; omega) (by omega) (by have := HV2.out; omega)
      obtain ⟨px, hpx⟩ : ∃ px : Int, x - (wh : Int) = px := ⟨_, rfl⟩
      obtain ⟨py, hpy⟩ : ∃ py : Int, y - (hh : Int) = py := ⟨_, rfl⟩
      have hpx1 := ar_wrap hpx (by have := HX.out; have := HV2.out; omega) (by have := HX.out; have := HV2.out; omega)
      have hpy1 := ar_wrap hpy (by have := HYB.out; omega) (by have := HYB.out; omega)
      obtain ⟨q4, hq4⟩ : ∃ q4 : Int, (m0 : Int) + x = q4 := ⟨_, rfl⟩
      have hq4w := ar_wrap hq4 (by have := HX.out; omega) (by have := HX.out; have := HV2.out; omega)
      have hq5w := ar_wrap (a := q4 + 1) (b := ((m0 + u : Nat) : Int)) (by have := HX.out; omega) (by omega) (by have := HV2.out; omega)
      have hmu : m0 + u < nn := by omega
      obtain ⟨r1, r2, r3, r4⟩ := rgRing (u := x) (v := y) HSM.out.ok HSM.out.t0 (by omega) (by omega) (by omega) (by omega) (by have := HX.out; have := HV2.out; omega) (by have := HY.out; omega) (x := px) (y := py) (by rw [← hpx, HWH.out]) (by rw [← hpy, HHH.out])
      have HRS : Hid (frF8 k W H t s f (m0 + u) = .int .u8 (rgS k W H t s f x y)) := by have := HX.out; have := HY.out; show _ = _; rw [← HM0.out, ← HV2.out]; exact frF8_at (by have := HV2.out; omega) (by omega) (by omega)
      have cr := fun w => Ring_calls k W H t s px py w HSM.out.t0
      rw [r1, r2] at cr
      generalize hRx : ringX k W H t s px py = qx at *
      generalize hRy : ringY k W H t s px py = qy at *
      clear hRx hRy r1 r2 hpx hpy hq4
      cases hb : rgOn k W H x y
      · obtain ⟨rfl, rfl⟩ := r4 hb
        have hq2 : ((m0 + u) < nn ∧ frF8 k W H t s f (m0 + u) = .int .u8 0) := ⟨hmu, by rw [HRS.out]; unfold rgS; rw [hb]; rfl⟩
        rw [hb] at cr
        have CR := Lib.hid cr
        clear r3 r4 hb cr
        go_wp2_with (first | (go_at_call 23; ((with_reducible refine (CR.out _).mono ?_); rintro e w2 ⟨rfl, hb2⟩; have KT2 := Lib.hid (bk_alloc (bk_below KT.out hb2) (.cells #[.int .i64 0, .int .i64 0] 56)); have KA2 := Lib.hid (bk_alloc (bk_below KA.out hb2) (.cells #[.int .i64 0, .int .i64 0] 56)); have HO2 := Lib.hid ((HO.out.below hb2).below (boxed w2 (.cells #[.int .i64 0, .int .i64 0] 56))); have HF2 := Lib.hid ((HF.out.below hb2).below (boxed w2 (.cells #[.int .i64 0, .int .i64 0] 56))); have HB2 := Lib.hid ((next HB.out hb2).alloc (next HB.out hb2).size (.cells #[.int .i64 0, .int .i64 0] 56)); have kt2 := bk_cell KT2.out; have ka2 := bk_cell KA2.out; have kp2 := bk_cell (bk_new w2 (.cells #[.int .i64 0, .int .i64 0] 56)); have kc2 := HO2.out.at_ hq2)))
        refine hQ2.out _ _ _ ?_
        refine And.intro ?_ ?measure
        (repeat apply Exists.intro)
        refine ⟨?rel, rfl⟩
        case rel => exact ⟨u + 1, (u : Int), by first | rfl | go_num, by show _ = _; omega, by omega, KT2, KA2, HO2, HF2, HB2⟩
        case measure => have := HX.out; simp [intOf]; omega
      · obtain ⟨⟨e1, e2⟩, e3, e4⟩ := r3 hb
        obtain ⟨U, hU⟩ : ∃ U : Int, rgU k W H t s x y = U := ⟨_, rfl⟩
        obtain ⟨V, hV⟩ : ∃ V : Int, rgV k W H t s x y = V := ⟨_, rfl⟩
        rw [hU] at e1 e3; rw [hV] at e2 e4
        have hg1 := ar_wrap (a := qx + (wh : Int)) (b := U) (by have := HWH.out; omega) (by omega) (by omega)
        have hg2 := ar_wrap (a := qy + (hh : Int)) (b := V) (by have := HHH.out; omega) (by omega) (by omega)
        obtain ⟨z, hz⟩ : ∃ z : Int, f V.toNat U.toNat = z := ⟨_, rfl⟩
        have hq2 : ((m0 + u) < nn ∧ frF8 k W H t s f (m0 + u) = .int .u8 z) := ⟨hmu, by rw [HRS.out]; unfold rgS; rw [hb, if_pos rfl, hU, hV, hz]⟩
        have hgv : getV ⟨W, H, St, pk, f⟩ U V = .tuple #[.int .u8 z, .int .i64 0] := by unfold getV; rw [if_pos (hasB_yes e3.1 e3.2 e4.1 e4.2)]; show Value.tuple #[.int .u8 (f V.toNat U.toNat), .int .i64 0] = _; rw [hz]
        have HGV := Lib.hid hgv
        have HQ2 := Lib.hid hq2
        rw [hb] at cr
        have CR := Lib.hid cr
        clear r3 r4 hb hgv e1 e2 e3 e4 hU hV hz cr
        go_wp2_with (first | (go_at_call 23; ((with_reducible refine (CR.out _).mono ?_); rintro e w2 ⟨rfl, hb2⟩; have KT2 := Lib.hid (bk_alloc (bk_below KT.out hb2) (.cells #[.int .i64 qx, .int .i64 qy] 56)); have KA2 := Lib.hid (bk_alloc (bk_below KA.out hb2) (.cells #[.int .i64 qx, .int .i64 qy] 56)); have HO2 := Lib.hid ((HO.out.below hb2).below (boxed w2 (.cells #[.int .i64 qx, .int .i64 qy] 56))); have HF2 := Lib.hid ((HF.out.below hb2).below (boxed w2 (.cells #[.int .i64 qx, .int .i64 qy] 56))); have HB2 := Lib.hid ((next HB.out hb2).alloc (next HB.out hb2).size (.cells #[.int .i64 qx, .int .i64 qy] 56)); have kt2 := bk_cell KT2.out; have ka2 := bk_cell KA2.out; have kp2 := bk_cell (bk_new w2 (.cells #[.int .i64 qx, .int .i64 qy] 56)); have kc2 := HO2.out.at_ hq2)) | (go_at_call 24; ((with_reducible refine (Get_calls U V HF2.out).mono ?_); rintro e w4 ⟨rfl, hb4⟩; rw [HGV.out]; have KT4 := Lib.hid (bk_below KT2.out hb4); have KA4 := Lib.hid (bk_below KA2.out hb4); have HO4 := Lib.hid (HO2.out.below hb4); have HF4 := Lib.hid (HF2.out.below hb4); have HB4 := Lib.hid (next HB2.out hb4); have kt4 := bk_cell KT4.out; have ka4 := bk_cell KA4.out; have kc4 := HO4.out.at_ HQ2.out)))
        refine hQ2.out _ _ _ ?_
        refine And.intro ?_ ?measure
        (repeat apply Exists.intro)
        refine ⟨?rel, rfl⟩
        case rel => exact ⟨u + 1, (u : Int), by first | rfl | go_num, by show _ = _; omega, by omega, KT4, KA4, HO4, HF4, HB4⟩
        case measure => have := HX.out; simp [intOf]; omega
    · have hxW : ¬ (x ≤ (W : Int)) := by have := HX.out; have := HV2.out; omega
      go_wp2_with (first | fail)
      refine hQ2.out _ _ _ ?_
      simp only [Exit.then, Exit.inBlock]
      go_wp2_with (first | fail)
      refine hQ1.out _ _ _ ?_
      refine And.intro ?_ ?measure
      (repeat apply Exists.intro)
      refine ⟨?rel, rfl⟩
      case rel => exact ⟨v + 1, (v : Int), by first | rfl | go_num, by show _ = _; omega, by omega, KT, KA, HO, HF, HB⟩
      case measure => have := HY.out; simp [intOf]; omega
  · have hyH : ¬ (y ≤ (H : Int)) := by have := HY.out; omega
    go_wp2_with (first | fail)
    refine hQ1.out _ _ _ ?_
    simp only [Exit.then, Exit.inBlock]
    go_wp2_with (first | fail)
    have HRD : Hid (Rd wr (some ⟨go, 0, none⟩) ((frL k W H t s f).map (.int .u8))) := HO.out.rd (by rw [frL_length, HNN.out]) (fun i hi => frL_at (by rw [HNN.out]; exact hi))
    have hfl : (frL k W H t s f).length = nn := by rw [frL_length, HNN.out]
    have CB : Hid (∀ (m : Nat) w', 1 ≤ m → m ≤ 3 → Rd w' (some ⟨go, 0, none⟩) ((frL k W H t s f).map (.int .u8)) → Calls Try.prog 25 #[.agg #[.int .i64 W, .int .i64 H, .slice (some ⟨go, 0, none⟩) nn nn], .int .u8 (m : Int)] w' (Ret (.bool true) w')) := fun m w' h1' h3' h => beside_calls ⟨w1, w9⟩ ⟨h1, h9⟩ HNN.out.symm (by unfold hdE; rw [if_pos (by omega)]) h hfl
    have KAe := KA; have HBe := HB
    clear hfl KT KA HO HF HB kt ka
    go_loopw [23] (fun vn wr => ∃ m : Nat, vn = .int .u8 (m : Int) ∧ 1 ≤ m ∧ m ≤ 4 ∧ Hid (wr.heap[BA]? = some (.cells #[.int .i64 W, .int .i64 H, .slice (some ⟨go, 0, none⟩) nn nn] 34 (0, 0))) ∧ Hid (Rd wr (some ⟨go, 0, none⟩) ((frL k W H t s f).map (.int .u8))) ∧ Hid (Below w.heap.size w wr)) (fun vn _ => 4 - (intOf vn).toNat)
    case atStart => exact ⟨1, rfl, by omega, by omega, KAe, HRD, HBe⟩
    clear KAe HRD HBe
    obtain ⟨m, rfl, hm1, hm4, KA, HRD, HB⟩ := hrel
    have ka := bk_cell KA.out
    by_cases hml : m ≤ 3
    · have hmi : (m : Int) ≤ 3 := by omega
      have hmw : IntKind.u8.wrap ((m : Int) + 1) = ((m + 1 : Nat) : Int) := by rw [IntKind.wrap_u8]; omega
      go_wp2_with (first | (go_at_call 25; ((with_reducible refine (CB.out m _ hm1 hml HRD.out).mono ?_); rintro e w9_ ⟨rfl, hb9⟩; have KA9 := Lib.hid (bk_below KA.out hb9); have HR9 := Lib.hid (HRD.out.below hb9); have HB9 := Lib.hid (next HB.out hb9))))
      go_roundw
      case rel => exact ⟨m + 1, by first | rfl | go_num, by omega, by omega, KA9, HR9, HB9⟩
      case measure => simp [intOf]; omega
    · have hmi : ¬ ((m : Int) ≤ 3) := by omega
      go_wp2_with (first | fail)
      go_ret
      exact Ret.of rfl HB.out
theorem RingGlues_law (w : World) {K W0 H0 T S : Int} (bK : -9223372036854775808 ≤ K ∧ K ≤ 9223372036854775807) (bW : -9223372036854775808 ≤ W0 ∧ W0 ≤ 9223372036854775807) (bH : -9223372036854775808 ≤ H0 ∧ H0 ≤ 9223372036854775807) (bT : -9223372036854775808 ≤ T ∧ T ≤ 9223372036854775807) (bS : -9223372036854775808 ≤ S ∧ S ≤ 9223372036854775807) {states : Int}
    (bst : -9223372036854775808 ≤ states ∧ states ≤ 9223372036854775807) (pk : Bool) {A : Option Addr} {n c : Nat} {l : List Int} (hn : l.length = n) (hnb : n ≤ 9223372036854775807) (hA : 0 < n → ∃ b off, A = some ⟨b, off, none⟩) (hr : Rd w A (l.map (.int .u8))) (hbl : ∀ z ∈ l, 0 ≤ z ∧ z ≤ 255) :
    Calls Try.prog 5 #[.agg #[.int .i64 K, .int .i64 W0, .int .i64 H0, .int .i64 T, .int .i64 S], .int .i64 states, .bool pk, .slice A n c] w (Ret (.bool true) w) := RingGlues_walk w bK bW bH bT bS bst hn hnb hA hr hbl
end Go.Proofs.Ytkldffpdlkmncaa
