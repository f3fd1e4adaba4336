/- RingAlike: the walk. -/
import Derived.Test.YtkldffpdlkmncaaRgT
import Derived.Test.YtkldffpdlkmncaaRgR
import Derived.Test.YtkldffpdlkmncaaWdB
import Derived.Test.YtkldffpdlkmncaaRgJ
set_option linter.unusedVariables false
set_option linter.unusedSimpArgs false
namespace Go.Proofs.Ytkldffpdlkmncaa
open Go.RowKit Go.Viv

theorem rgS_bd {k : Int} {W H : Nat} {t s : Int} {f : Nat → Nat → Int} {u v : Int} (h : Small k W H t s) (hf : ∀ y x, y < H → x < W → 0 ≤ f y x) (hu : -1 ≤ u ∧ u ≤ W) (hv : -1 ≤ v ∧ v ≤ H) : 0 ≤ rgS k W H t s f u v := by
  unfold rgS
  split
  · rename_i hb
    have := rgOn_bd (topoOk_of h.t0 h.ok) (by have := h.w1; omega) (by have := h.h1; omega) hu hv hb
    exact hf _ _ (by omega) (by omega)
  · omega
theorem alikeHeld {gr1 gr2 h n y BT : Nat} {k W H t s : Int} {G1 G2 : Nat → Nat} {B : Nat → Nat → Bool} {w w' : World} (hT : w.heap[BT]? = some (.cells #[.int .u8 k, .int .i64 W, .int .i64 H, .int .u8 t, .int .i64 s] 23 (0, 0))) (h1 : RowsTo gr1 G1 h n B h w) (h2 : RowsTo gr2 G2 h n B h w) (hy : y < h) (hb : Below w.heap.size w w') :
    w'.cell? ⟨gr1, y * 2, none⟩ = some (.int .i64 n) ∧ w'.cell? ⟨gr1, y * 2 + 1, none⟩ = some (.slice (some ⟨G1 y, 0, none⟩) (nw n) (nw n)) ∧ w'.cell? ⟨gr2, y * 2, none⟩ = some (.int .i64 n) ∧ w'.cell? ⟨gr2, y * 2 + 1, none⟩ = some (.slice (some ⟨G2 y, 0, none⟩) (nw n) (nw n)) ∧ w'.cell? ⟨BT, 1, none⟩ = some (.int .i64 W) := by
  obtain ⟨c1, a1, _, d1⟩ := (h1.below hb).rows
  obtain ⟨c2, a2, _, d2⟩ := (h2.below hb).rows
  exact ⟨by rw [bk_cell a1]; exact (d1 y hy).1, by rw [bk_cell a1]; exact (d1 y hy).2, by rw [bk_cell a2]; exact (d2 y hy).1, by rw [bk_cell a2]; exact (d2 y hy).2, bk_cell (bk_below hT hb) 1⟩

set_option maxRecDepth 20000 in
set_option maxHeartbeats 8000000 in
theorem RingAlike_walk (w : World) {K W0 H0 T S : Int} {A : Option Addr} {n c : Nat} {l : List Int} (bK : -9223372036854775808 ≤ K ∧ K ≤ 9223372036854775807) (bW : -9223372036854775808 ≤ W0 ∧ W0 ≤ 9223372036854775807) (bH : -9223372036854775808 ≤ H0 ∧ H0 ≤ 9223372036854775807) (bT : -9223372036854775808 ≤ T ∧ T ≤ 9223372036854775807) (bS : -9223372036854775808 ≤ S ∧ S ≤ 9223372036854775807)
    (hn : l.length = n) (hnb : n ≤ 9223372036854775807) (hA : 0 < n → ∃ b off, A = some ⟨b, off, none⟩) (hr : Rd w A (l.map (.int .u8))) (hbl : ∀ z ∈ l, 0 ≤ z ∧ z ≤ 255) :
    Calls Try.prog 9 #[.agg #[.int .i64 K, .int .i64 W0, .int .i64 H0, .int .i64 T, .int .i64 S], .slice A n c] w (Ret (.bool true) w) := by
  have KG := Lib.hid (bk_new w (.cells #[.int .i64 K, .int .i64 W0, .int .i64 H0, .int .i64 T, .int .i64 S] 51))
  have HB0 := Lib.hid (boxed w (.cells #[.int .i64 K, .int .i64 W0, .int .i64 H0, .int .i64 T, .int .i64 S] 51))
  have C2 := Lib.hid (fun w => rgTopo_calls K W0 H0 T S w bK bW bH bT bS)
  have C3 : Hid (∀ (k t s : Int) (W H : Nat) (pk : Bool) w', Small k W H t s → Rd w' A (l.map (.int .u8)) → Calls Try.prog 22 #[topoV k W H t s, .int .i64 0, .bool pk, .slice A n c] w' (FilledP W H 2 pk l w')) := fun k t s W H pk w' hs h => by
    have := filled_calls (k := k) (t := t) (s := s) 0 pk A n c l w' ⟨hs.w1, hs.w9⟩ ⟨hs.h1, hs.h9⟩ (by omega) hn hnb hA h hbl
    rwa [show filSt 0 pk = 2 by unfold filSt; cases pk <;> rfl] at this
  have HR := Lib.hid hr
  clear bK bW bH bT bS hn hnb hA hr hbl
  go_enter Try.func9, Try.ntmps9
  go_wp2_with (first
    | (go_at_call 10; ((with_reducible refine (alive14 _).mono ?_); rintro e w1 ⟨rfl, hb1⟩; have KG1 := Lib.hid (bk_below KG.out hb1); have HB1 := Lib.hid (next HB0.out hb1); have kg1 := bk_cell KG1.out))
    | (go_at_call 21; ((with_reducible refine (C2.out _).mono ?_); rintro e w2 ⟨k, t, s, W, H, rfl, hsm, hb2⟩; have KT2 := Lib.hid (bk_new w2 (.cells #[.int .u8 k, .int .i64 W, .int .i64 H, .int .u8 t, .int .i64 s] 23)); have HB2 := Lib.hid ((next HB1.out hb2).alloc (next HB1.out hb2).size (.cells #[.int .u8 k, .int .i64 W, .int .i64 H, .int .u8 t, .int .i64 s] 23)); have kt2 := bk_cell KT2.out; have HSM := Lib.hid hsm)))
  clear hsm hb1 hb2 kg1 KG1 HB1 C2
  generalize w2.alloc (.cells #[.int .u8 k, .int .i64 W, .int .i64 H, .int .u8 t, .int .i64 s] 23) = W2 at *
  generalize w2.heap.size = BT at *
  obtain ⟨f, hf⟩ : ∃ f, keptF W 2 l = f := ⟨_, rfl⟩
  refine (C3.out _ _ _ _ _ _ _ HSM.out (HR.out.below HB2.out)).mono ?_
  rintro e w3 ⟨g1, S1, rfl, hF3, _, hb3⟩
  have KT3 := Lib.hid (bk_below KT2.out hb3)
  have HB3 := Lib.hid (next HB2.out hb3)
  have kt3 := bk_cell KT3.out
  have HF3 : Hid (Fld g1 ⟨W, H, 2, true, f⟩ S1 w3) := by rw [← hf]; exact hF3
  clear hF3 hb3 KT2 HB2 kt2
  go_wp2_with (first | fail)
  refine (C3.out _ _ _ _ _ _ _ HSM.out (HR.out.below HB3.out)).mono ?_
  rintro e w4 ⟨g2, S2, rfl, hF4, _, hb4⟩
  have KT4 := Lib.hid (bk_below KT3.out hb4)
  have HB4 := Lib.hid (next HB3.out hb4)
  have kt4 := bk_cell KT4.out
  have HG4 : Hid (Fld g2 ⟨W, H, 2, false, f⟩ S2 w4) := by rw [← hf]; exact hF4
  have HF4 := Lib.hid (HF3.out.below hb4)
  clear hF4 hb4 KT3 HB3 kt3 HF3 C3 hf
  have HFN : Hid (∀ y x, y < H → x < W → 0 ≤ f y x) := fun y x hy hx => (HF4.out.ok.bd y x hy hx).1
  go_wp2_with (first | fail)
  obtain ⟨nn, hnn⟩ : ∃ nn, (W + 2) * (H + 2) = nn := ⟨_, rfl⟩
  have HNN := Lib.hid hnn
  refine (rgBytes_yes HSM.out.t0 HSM.out.ok HF4.out).mono ?_
  rintro e w5 ⟨go, rfl, hgo, hO, hb5⟩
  rw [hnn] at hO ⊢
  have KA5 := Lib.hid (bk_new w5 (.cells #[.int .i64 W, .int .i64 H, .slice (some ⟨go, 0, none⟩) nn nn] 34))
  have KT5 := Lib.hid (bk_alloc (bk_below KT4.out hb5) (.cells #[.int .i64 W, .int .i64 H, .slice (some ⟨go, 0, none⟩) nn nn] 34))
  have HO5 := Lib.hid (hO.below (boxed w5 (.cells #[.int .i64 W, .int .i64 H, .slice (some ⟨go, 0, none⟩) nn nn] 34)))
  have HF5 := Lib.hid ((HF4.out.below hb5).below (boxed w5 (.cells #[.int .i64 W, .int .i64 H, .slice (some ⟨go, 0, none⟩) nn nn] 34)))
  have HG5 := Lib.hid ((HG4.out.below hb5).below (boxed w5 (.cells #[.int .i64 W, .int .i64 H, .slice (some ⟨go, 0, none⟩) nn nn] 34)))
  have HB5 := Lib.hid ((next HB4.out hb5).alloc (next HB4.out hb5).size (.cells #[.int .i64 W, .int .i64 H, .slice (some ⟨go, 0, none⟩) nn nn] 34))
  have kt5 := bk_cell KT5.out
  clear hO hgo hb5 KT4 HB4 HF4 HG4 kt4
  go_wp2_with (first | fail)
  generalize w5.alloc (.cells #[.int .i64 W, .int .i64 H, .slice (some ⟨go, 0, none⟩) nn nn] 34) = W5 at *
  generalize w5.heap.size = BA at *
  refine (rgBytes_yes HSM.out.t0 HSM.out.ok HG5.out).mono ?_
  rintro e w6 ⟨go2, rfl, hgo, hO2, hb6⟩
  rw [hnn] at hO2 ⊢
  have KC6 := Lib.hid (bk_new w6 (.cells #[.int .i64 W, .int .i64 H, .slice (some ⟨go2, 0, none⟩) nn nn] 34))
  have KA6 := Lib.hid (bk_alloc (bk_below KA5.out hb6) (.cells #[.int .i64 W, .int .i64 H, .slice (some ⟨go2, 0, none⟩) nn nn] 34))
  have KT6 := Lib.hid (bk_alloc (bk_below KT5.out hb6) (.cells #[.int .i64 W, .int .i64 H, .slice (some ⟨go2, 0, none⟩) nn nn] 34))
  have HP6 := Lib.hid (hO2.below (boxed w6 (.cells #[.int .i64 W, .int .i64 H, .slice (some ⟨go2, 0, none⟩) nn nn] 34)))
  have HO6 := Lib.hid ((HO5.out.below hb6).below (boxed w6 (.cells #[.int .i64 W, .int .i64 H, .slice (some ⟨go2, 0, none⟩) nn nn] 34)))
  have HF6 := Lib.hid ((HF5.out.below hb6).below (boxed w6 (.cells #[.int .i64 W, .int .i64 H, .slice (some ⟨go2, 0, none⟩) nn nn] 34)))
  have HG6 := Lib.hid ((HG5.out.below hb6).below (boxed w6 (.cells #[.int .i64 W, .int .i64 H, .slice (some ⟨go2, 0, none⟩) nn nn] 34)))
  have HB6 := Lib.hid ((next HB5.out hb6).alloc (next HB5.out hb6).size (.cells #[.int .i64 W, .int .i64 H, .slice (some ⟨go2, 0, none⟩) nn nn] 34))
  have kt6 := bk_cell KT6.out
  clear hO2 hgo hb6 KT5 HB5 HF5 HG5 HO5 KA5 kt5
  go_wp2_with (first | fail)
  generalize w6.alloc (.cells #[.int .i64 W, .int .i64 H, .slice (some ⟨go2, 0, none⟩) nn nn] 34) = W6 at *
  generalize w6.heap.size = BC at *
  refine (rgRows_yes HSM.out.t0 HSM.out.ok HF6.out (by omega)).mono ?_
  rintro e w7 ⟨gr1, G1, rfl, hgo, hR1, hb7⟩
  have KC7 := Lib.hid (bk_below KC6.out hb7)
  have KA7 := Lib.hid (bk_below KA6.out hb7)
  have KT7 := Lib.hid (bk_below KT6.out hb7)
  have HP7 := Lib.hid (HP6.out.below hb7)
  have HO7 := Lib.hid (HO6.out.below hb7)
  have HG7 := Lib.hid (HG6.out.below hb7)
  have HB7 := Lib.hid (next HB6.out hb7)
  have HR7 := Lib.hid hR1
  have kt7 := bk_cell KT7.out
  clear hR1 hgo hb7 KT6 HB6 HF6 HG6 HO6 HP6 KA6 KC6 kt6
  go_wp2_with (first | fail)
  refine (rgRows_yes HSM.out.t0 HSM.out.ok HG7.out (by omega)).mono ?_
  rintro e w8 ⟨gr2, G2, rfl, hgo, hR2, hb8⟩
  have KC8 := Lib.hid (bk_below KC7.out hb8)
  have KA8 := Lib.hid (bk_below KA7.out hb8)
  have KT8 := Lib.hid (bk_below KT7.out hb8)
  have HP8 := Lib.hid (HP7.out.below hb8)
  have HO8 := Lib.hid (HO7.out.below hb8)
  have HB8 := Lib.hid (next HB7.out hb8)
  have HR8 := Lib.hid (HR7.out.below hb8)
  have HS8 := Lib.hid hR2
  have kt8 := bk_cell KT8.out; have ka8 := bk_cell KA8.out; have kc8 := bk_cell KC8.out
  have hsa := run_string_rd (P := Try.prog) (src := 32) (dst := 9) Try.underlying32 Try.underlying5 Try.underlying9 (c := nn) (HO8.out.rd (l := frL k W H t s f) (by rw [frL_length, hnn]) (fun i hi => frL_at (by rw [hnn]; exact hi))) (n := nn) (by rw [frL_length, hnn])
  have hsb := run_string_rd (P := Try.prog) (src := 32) (dst := 9) Try.underlying32 Try.underlying5 Try.underlying9 (c := nn) (HP8.out.rd (l := frL k W H t s f) (by rw [frL_length, hnn]) (fun i hi => frL_at (by rw [hnn]; exact hi))) (n := nn) (by rw [frL_length, hnn])
  generalize strOfNums (frL k W H t s f) = Z at *
  have hzn : (Z.toList != Z.toList) = false := by simp
  have w1 := HSM.out.w1; have w9 := HSM.out.w9; have h1 := HSM.out.h1; have h9 := HSM.out.h9
  obtain ⟨V2, hV2⟩ : ∃ V2, W + 2 = V2 := ⟨_, rfl⟩
  obtain ⟨H2, hH2⟩ : ∃ H2, H + 2 = H2 := ⟨_, rfl⟩
  rw [hV2, hH2] at HR8 HS8
  rw [hH2]
  have wV2 := ar_wrap (a := (W : Int) + 2) (b := (V2 : Int)) (by omega) (by omega) (by omega)
  have wH2 := ar_wrap (a := (H : Int) + 2) (b := (H2 : Int)) (by omega) (by omega) (by omega)
  have hv11 : V2 ≤ 11 := by omega
  have hh11 : H2 ≤ 11 := by omega
  have HV2 := Lib.hid hV2; have HH2 := Lib.hid hH2
  have hhh : ((H2 : Int) != (H2 : Int)) = false := by simp
  have hvv : ((V2 : Int) != (V2 : Int)) = false := by simp
  clear hR2 hgo hb8 KT7 HB7 HG7 HO7 HP7 KA7 KC7 HR7 kt7 hnn hV2 hH2
  go_wp2_with (first | fail)
  clear hsa hsb hzn kt8 ka8 kc8 KC8 HP8
  go_loopw [19] (fun vy wr => ∃ y : Nat, vy = .int .i64 (y : Int) ∧ y ≤ H2 ∧ Hid (wr.heap[BT]? = some (.cells #[.int .u8 k, .int .i64 W, .int .i64 H, .int .u8 t, .int .i64 s] 23 (0, 0))) ∧ Hid (wr.heap[BA]? = some (.cells #[.int .i64 W, .int .i64 H, .slice (some ⟨go, 0, none⟩) nn nn] 34 (0, 0))) ∧ Hid (OutAt 5 go nn (frF8 k W H t s f) (fun _ => True) wr) ∧ Hid (RowsTo gr1 G1 H2 V2 (rowB k W H t s f) H2 wr) ∧ Hid (RowsTo gr2 G2 H2 V2 (rowB k W H t s f) H2 wr) ∧ Hid (Below w.heap.size w wr)) (fun vy _ => H2 - (intOf vy).toNat)
  case atStart => exact ⟨0, rfl, by omega, KT8, KA8, HO8, HR8, HS8, HB8⟩
  clear KT8 KA8 HO8 HR8 HS8 HB8
  obtain ⟨y, rfl, hy, KT, KA, HO, HR1, HR2, HB⟩ := hrel
  have kt := bk_cell KT.out
  by_cases hyl : y < H2
  · have hyi : (y : Int) < (H2 : Int) := by omega
    have CV1 : Hid (∀ w', Below wr.heap.size wr w' → Calls Try.prog 36 #[.agg #[.int .i64 V2, .slice (some ⟨G1 y, 0, none⟩) (nw V2) (nw V2)]] w' (Ret (.bool true) w')) := fun w' hb => wValid_calls (by have := HV2.out; omega) (by have := HV2.out; omega) ((HR1.out.row y hyl).below hb)
    have CV2 : Hid (∀ w', Below wr.heap.size wr w' → Calls Try.prog 36 #[.agg #[.int .i64 V2, .slice (some ⟨G2 y, 0, none⟩) (nw V2) (nw V2)]] w' (Ret (.bool true) w')) := fun w' hb => wValid_calls (by have := HV2.out; omega) (by have := HV2.out; omega) ((HR2.out.row y hyl).below hb)
    go_wp2_with (first | fail)
    go_region_held3 (fun w' => w'.cell? ⟨gr1, y * 2, none⟩ = some (.int .i64 V2) ∧ w'.cell? ⟨gr1, y * 2 + 1, none⟩ = some (.slice (some ⟨G1 y, 0, none⟩) (nw V2) (nw V2)) ∧ w'.cell? ⟨gr2, y * 2, none⟩ = some (.int .i64 V2) ∧ w'.cell? ⟨gr2, y * 2 + 1, none⟩ = some (.slice (some ⟨G2 y, 0, none⟩) (nw V2) (nw V2)) ∧ w'.cell? ⟨BT, 1, none⟩ = some (.int .i64 W))
      (first | exact alikeHeld KT.out HR1.out HR2.out hyl (Below.refl _ _).drew | exact alikeHeld KT.out HR1.out HR2.out hyl hbA | exact alikeHeld KT.out HR1.out HR2.out hyl hbB)
      (first | (go_at_call 36; ((with_reducible refine (CV1.out _ (Below.refl _ _).drew).mono ?_); rintro e wA ⟨rfl, hb_⟩; have hbA := undrew hb_; clear hb_)) | (go_at_call 36; ((with_reducible refine (CV2.out _ hbA).mono ?_); rintro e wB ⟨rfl, hb_⟩; have hbB := next hbA hb_; clear hb_)))
    have KTb := Lib.hid (bk_below KT.out hbB)
    have KAb := Lib.hid (bk_below KA.out hbB)
    have HOb := Lib.hid (HO.out.below hbB)
    have HR1b := Lib.hid (HR1.out.below hbB)
    have HR2b := Lib.hid (HR2.out.below hbB)
    have HBb := Lib.hid (next HB.out hbB)
    clear KT KA HO HR1 HR2 HB kt CV1 CV2 hbA hbB
    obtain ⟨m0, hm0⟩ : ∃ q, V2 * y = q := ⟨_, rfl⟩
    have hm0b : m0 ≤ 121 := by rw [← hm0, ← HV2.out]; exact Nat.mul_le_mul (show W + 2 ≤ 11 by omega) (show y ≤ 11 by have := HH2.out; omega)
    have hwm0 := ar_wrap (a := (y : Int) * (V2 : Int)) (b := (m0 : Int)) (by rw [← hm0, Int.natCast_mul, Int.mul_comm]) (by omega) (by omega)
    have hm0n : m0 + V2 ≤ nn := by
      rw [← hm0, ← HNN.out, HV2.out]
      exact Nat.mul_le_mul_left V2 (show y + 1 ≤ H + 2 by have := HH2.out; omega)
    have HM0 := Lib.hid hm0
    clear hm0
    go_wp2_with (first | fail)
    go_loopw [20] (fun vx wr => ∃ x : Nat, vx = .int .i64 (x : Int) ∧ x ≤ V2 ∧ Hid (wr.heap[BT]? = some (.cells #[.int .u8 k, .int .i64 W, .int .i64 H, .int .u8 t, .int .i64 s] 23 (0, 0))) ∧ Hid (wr.heap[BA]? = some (.cells #[.int .i64 W, .int .i64 H, .slice (some ⟨go, 0, none⟩) nn nn] 34 (0, 0))) ∧ Hid (OutAt 5 go nn (frF8 k W H t s f) (fun _ => True) wr) ∧ Hid (RowsTo gr1 G1 H2 V2 (rowB k W H t s f) H2 wr) ∧ Hid (RowsTo gr2 G2 H2 V2 (rowB k W H t s f) H2 wr) ∧ Hid (Below w.heap.size w wr)) (fun vx _ => V2 - (intOf vx).toNat)
    case atStart => exact ⟨0, rfl, by omega, KTb, KAb, HOb, HR1b, HR2b, HBb⟩
    clear KTb KAb HOb HR1b HR2b HBb
    obtain ⟨x, rfl, hx, KT, KA, HO, HR1, HR2, HB⟩ := hrel
    have kt := bk_cell KT.out; have ka := bk_cell KA.out
    by_cases hxl : x < V2
    · have hxi : (x : Int) < (V2 : Int) := by omega
      obtain ⟨q, hq⟩ : ∃ q, m0 + x = q := ⟨_, rfl⟩
      have hwq := ar_wrap (a := (m0 : Int) + (x : Int)) (b := (q : Int)) (by omega) (by omega) (by omega)
      have hqn : q < nn := by omega
      obtain ⟨z, hz⟩ : ∃ z, rgS k W H t s f ((x : Int) - 1) ((y : Int) - 1) = z := ⟨_, rfl⟩
      have hz0 : 0 ≤ z := by rw [← hz]; exact rgS_bd HSM.out HFN.out (by have := HV2.out; omega) (by have := HH2.out; omega)
      have hzq : frF8 k W H t s f q = .int .u8 z := by
        rw [← hq, ← HM0.out, ← HV2.out, ← hz]
        exact frF8_at (by have := HV2.out; omega) rfl rfl
      have kz := HO.out.at_ ⟨hqn, hzq⟩
      obtain ⟨d, hd⟩ : ∃ d, decide (0 < z) = d := ⟨_, rfl⟩
      have hdd : (d != d) = false := by simp
      have hB : rowB k W H t s f y x = d := by
        unfold rowB
        rw [hz, ← hd]
        by_cases e : z = 0
        · subst e; rfl
        · rw [decide_eq_true (by omega)]; simp [e]
      have CG1 : Hid (∀ w', RowW (G1 y) V2 (rowB k W H t s f y) V2 w' → Calls Try.prog 37 #[.agg #[.int .i64 V2, .slice (some ⟨G1 y, 0, none⟩) (nw V2) (nw V2)], .int .i64 x] w' (Ret (.bool d) w')) := fun w' h => by rw [← hB]; exact wGet_calls (by have := HV2.out; omega) hxl h
      have CG2 : Hid (∀ w', RowW (G2 y) V2 (rowB k W H t s f y) V2 w' → Calls Try.prog 37 #[.agg #[.int .i64 V2, .slice (some ⟨G2 y, 0, none⟩) (nw V2) (nw V2)], .int .i64 x] w' (Ret (.bool d) w')) := fun w' h => by rw [← hB]; exact wGet_calls (by have := HV2.out; omega) hxl h
      have HRW1 := Lib.hid (HR1.out.row y hyl); have HRW2 := Lib.hid (HR2.out.row y hyl)
      obtain ⟨r1, r2, r3, r4, _⟩ := alikeHeld KT.out HR1.out HR2.out hyl (Below.refl _ _)
      have R34 : Hid (∀ w', Below wr.heap.size wr w' → w'.cell? ⟨gr2, y * 2, none⟩ = some (.int .i64 V2) ∧ w'.cell? ⟨gr2, y * 2 + 1, none⟩ = some (.slice (some ⟨G2 y, 0, none⟩) (nw V2) (nw V2))) := fun w' hb => by
        obtain ⟨_, _, a3, a4, _⟩ := alikeHeld KT.out HR1.out HR2.out hyl hb
        exact ⟨a3, a4⟩
      clear hq hz hzq hB
      go_wp2_with (first | (go_at_call 37; ((with_reducible refine (CG1.out _ HRW1.out).mono ?_); rintro e wA ⟨rfl, hbA⟩; obtain ⟨s3, s4⟩ := R34.out _ hbA; have HRW2A := Lib.hid (HRW2.out.below hbA))) | (go_at_call 37; ((with_reducible refine (CG2.out _ HRW2A.out).mono ?_); rintro e wB ⟨rfl, hbB⟩; have hbB2 := next hbA hbB)))
      have KTb := Lib.hid (bk_below KT.out hbB2)
      have KAb := Lib.hid (bk_below KA.out hbB2)
      have HOb := Lib.hid (HO.out.below hbB2)
      have HR1b := Lib.hid (HR1.out.below hbB2)
      have HR2b := Lib.hid (HR2.out.below hbB2)
      have HBb := Lib.hid (next HB.out hbB2)
      go_roundw
      case rel => exact ⟨x + 1, by first | rfl | go_num, by omega, KTb, KAb, HOb, HR1b, HR2b, HBb⟩
      case measure => simp [intOf]; omega
    · obtain rfl : x = V2 := by omega
      go_wp2_with (first | fail)
      go_roundw
      case rel => exact ⟨y + 1, by first | rfl | go_num, by omega, KT, KA, HO, HR1, HR2, HB⟩
      case measure => simp [intOf]; omega
  · have hyi : ¬ ((y : Int) < (H2 : Int)) := by omega
    go_wp2_with (first | fail)
    go_ret
    exact Ret.of rfl HB.out
theorem RingAlike_law (w : World) {K W0 H0 T S : Int} (bK : -9223372036854775808 ≤ K ∧ K ≤ 9223372036854775807) (bW : -9223372036854775808 ≤ W0 ∧ W0 ≤ 9223372036854775807) (bH : -9223372036854775808 ≤ H0 ∧ H0 ≤ 9223372036854775807) (bT : -9223372036854775808 ≤ T ∧ T ≤ 9223372036854775807) (bS : -9223372036854775808 ≤ S ∧ S ≤ 9223372036854775807)
    {A : Option Addr} {n c : Nat} {l : List Int} (hn : l.length = n) (hnb : n ≤ 9223372036854775807) (hA : 0 < n → ∃ b off, A = some ⟨b, off, none⟩) (hr : Rd w A (l.map (.int .u8))) (hbl : ∀ z ∈ l, 0 ≤ z ∧ z ≤ 255) :
    Calls Try.prog 9 #[.agg #[.int .i64 K, .int .i64 W0, .int .i64 H0, .int .i64 T, .int .i64 S], .slice A n c] w (Ret (.bool true) w) := RingAlike_walk w bK bW bH bT bS hn hnb hA hr hbl
end Go.Proofs.Ytkldffpdlkmncaa
