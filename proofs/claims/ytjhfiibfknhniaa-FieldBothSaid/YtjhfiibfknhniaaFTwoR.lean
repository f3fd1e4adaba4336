/- law13.two: Line, Box, Pop; all acts. -/
import Derived.Test.YtjhfiibfknhniaaFTwoL
import Derived.Test.YtjhfiibfknhniaaOpM
set_option linter.unusedVariables false
set_option linter.unusedSimpArgs false
namespace Go.Proofs.Ytjhfiibfknhniaa
open Go.RowKit

def lineL (D : FD) (y : Int) : List Int := if hasB D.W D.H 0 y then rowI D y.toNat else []
def lineE (D : FD) (y : Int) : Int := if hasB D.W D.H 0 y then 0 else 130
theorem line_any {g : Nat} {D : FD} {S : Nat → Prop} {w : World} (y : Int) (h : Fld g D S w) :
    Calls Try.prog 12 #[.pointer (some ⟨g, 0, none⟩), .int .i64 y] w fun e w' => ∃ A c, e = .returned (.tuple #[.slice A (lineL D y).length c, .int .i64 (lineE D y)]) ∧ Rd w' A ((lineL D y).map (.int .u8)) ∧ Below w.heap.size w w' := by
  unfold lineL lineE
  cases hb : hasB D.W D.H 0 y
  · exact (Line_no y h hb).mono fun e w' ⟨a, b⟩ => ⟨none, 0, by rw [a]; rfl, Rd.nil _, b⟩
  · obtain ⟨h1, h2, h3, h4⟩ := hasB_of hb
    have hy : y = ((y.toNat : Nat) : Int) := by omega
    have := Line_yes (y := y.toNat) h (by omega)
    rw [← hy] at this
    exact this.mono fun e w' ⟨go, cs, a, _, hk, hc, b⟩ => ⟨some ⟨go, 0, none⟩, D.W, by rw [a]; simp [rowI], Rd.of_block hk (by intro j u hu; rw [if_pos rfl, ← hc] at hu; simpa using hu), b⟩
theorem lineL_bd {D : FD} (h : D.Ok) (y : Int) : ∀ z ∈ lineL D y, 0 ≤ z ∧ z ≤ 255 := by
  unfold lineL
  cases hb : hasB D.W D.H 0 y
  · simp
  · obtain ⟨h1, h2, h3, h4⟩ := hasB_of hb
    intro z hz
    simp only [if_true, rowI] at hz
    obtain ⟨x, hx, rfl⟩ := List.mem_map.1 hz
    have := h.bd y.toNat x (by omega) (List.mem_range.1 hx)
    have := h.s1
    omega
theorem TwoSt.line {f g : Nat} {D E : FD} {S T : Nat → Prop} {w : World} (h : TwoSt f g D E S T w) (y : Int) : lineL E y = lineL D y ∧ lineE E y = lineE D y := by
  unfold lineL lineE
  rw [← h.w1, ← h.h1]
  cases hb : hasB D.W D.H 0 y
  · exact ⟨rfl, rfl⟩
  · obtain ⟨h1, h2, h3, h4⟩ := hasB_of hb
    exact ⟨by simp only [if_true]; rw [h.row (y := y.toNat) (by omega)], rfl⟩

set_option maxRecDepth 20000 in
set_option maxHeartbeats 4000000 in
theorem two_rest {f g : Nat} {D E : FD} {S T : Nat → Prop} {w : World} (kd wh x y s ss : Int) (A : Option Addr) (n c : Nat) (on : Bool) (h : TwoSt f g D E S T w) (k0 : kd ≠ 0) (k1 : kd ≠ 1) (k3 : kd ≠ 3) (k4 : kd ≠ 4) (k8 : kd ≠ 8) :
    Calls Try.prog 18 #[.pointer (some ⟨f, 0, none⟩), .pointer (some ⟨g, 0, none⟩), .agg #[.int .i64 kd, .int .i64 wh, .int .i64 x, .int .i64 y, .int .u8 s, .int .i64 ss, .slice A n c, .bool on]] w (TwoP f g S T w) := by
  have H := Lib.hid h
  have hbA := boxed w (.cells #[.int .i64 kd, .int .i64 wh, .int .i64 x, .int .i64 y, .int .u8 s, .int .i64 ss, .slice A n c, .bool on] 41)
  have KO := bk_new w (.cells #[.int .i64 kd, .int .i64 wh, .int .i64 x, .int .i64 y, .int .u8 s, .int .i64 ss, .slice A n c, .bool on] 41)
  have hcO := bk_cell KO
  have e0 : (kd == 0) = false := beq_eq_false_iff_ne.2 k0
  have e1 : (kd == 1) = false := beq_eq_false_iff_ne.2 k1
  have e3 : (kd == 3) = false := beq_eq_false_iff_ne.2 k3
  have e4 : (kd == 4) = false := beq_eq_false_iff_ne.2 k4
  have e8 : (kd == 8) = false := beq_eq_false_iff_ne.2 k8
  obtain ⟨hl, he⟩ := h.line y
  have HL := Lib.hid hl; have HE := Lib.hid he
  have HLV := Lib.hid h.liv
  have HBD := Lib.hid (lineL_bd h.d.ok y)
  have H1 := Lib.hid (h.below hbA)
  have HB := Lib.hid hbA
  obtain ⟨v, hv⟩ : ∃ v, lineE D y = v := ⟨_, rfl⟩
  have hvv : (v == v) = true := beq_self_eq_true v
  have HV := Lib.hid hv
  obtain ⟨a0, a1, a2, a3, bb, hbx⟩ : ∃ a0 a1 a2 a3 bb, boxV (livL D) = .tuple #[.agg #[.int .i64 a0, .int .i64 a1, .int .i64 a2, .int .i64 a3], .bool bb] := ⟨_, _, _, _, _, rfl⟩
  have HBX := Lib.hid hbx
  clear h hl he k0 k1 k3 k4 k8 hv hbx
  go_enter Try.func18, Try.ntmps18
  go_wp2_with (first | fail)
  generalize (w.alloc (.cells #[.int .i64 kd, .int .i64 wh, .int .i64 x, .int .i64 y, .int .u8 s, .int .i64 ss, .slice A n c, .bool on] 41)) = W1 at *
  refine (line_any y H1.out.d).mono ?_
  rintro e w2 ⟨Aa, ca, rfl, ra, hb2⟩
  rw [HV.out]
  have H2 := Lib.hid (H1.out.below hb2)
  have RA := Lib.hid ra
  have KO2 := bk_below KO hb2
  have hcO2 := bk_cell KO2
  have B2 := Lib.hid (HB.out.trans (hb2.mono HB.out.size))
  clear hcO ra H1 HB hb2 KO
  go_wp2_with (first | fail)
  refine (line_any y H2.out.e).mono ?_
  rintro e w3 ⟨Ab, cb, rfl, rb, hb3⟩
  rw [HL.out] at rb ⊢
  rw [HE.out, HV.out]
  have H3 := Lib.hid (H2.out.below hb3)
  have RA3 := Lib.hid (RA.out.below hb3)
  have RB := Lib.hid rb
  have B3 := Lib.hid (next B2.out hb3)
  clear hcO2 rb H2 RA KO2 hb3 B2
  go_wp2_with (first | fail)
  refine (Box_calls H3.out.d).mono ?_
  rintro e w4 ⟨rfl, hb4⟩
  rw [HBX.out]
  have H4 := Lib.hid (H3.out.below hb4)
  have RA4 := Lib.hid (RA3.out.below hb4)
  have RB4 := Lib.hid (RB.out.below hb4)
  have B4 := Lib.hid (next B3.out hb4)
  clear H3 RA3 RB B3 hb4
  go_wp2_with (first | fail)
  have hbX := boxed w4 (.cells #[.int .i64 a0, .int .i64 a1, .int .i64 a2, .int .i64 a3] 60)
  have KX := bk_new w4 (.cells #[.int .i64 a0, .int .i64 a1, .int .i64 a2, .int .i64 a3] 60)
  refine (Box_calls (H4.out.e.below hbX)).mono ?_
  rintro e w5 ⟨rfl, hb5⟩
  rw [← HLV.out, HBX.out]
  have hb45 := next hbX hb5
  have H5 := Lib.hid (H4.out.below hb45)
  have RA5 := Lib.hid (RA4.out.below hb45)
  have RB5 := Lib.hid (RB4.out.below hb45)
  have B5 := Lib.hid (next B4.out hb45)
  have KX5 := bk_below KX hb5
  clear H4 RA4 RB4 B4 hb45 hbX KX hb5
  go_wp2_with (first | fail)
  have hbY := boxed w5 (.cells #[.int .i64 a0, .int .i64 a1, .int .i64 a2, .int .i64 a3] 60)
  have KY := bk_new w5 (.cells #[.int .i64 a0, .int .i64 a1, .int .i64 a2, .int .i64 a3] 60)
  have KX6 := bk_alloc KX5 (.cells #[.int .i64 a0, .int .i64 a1, .int .i64 a2, .int .i64 a3] 60)
  have H6 := Lib.hid (H5.out.below hbY)
  have B6 := Lib.hid (next B5.out hbY)
  refine (same13_eq _ (RA5.out.below hbY) (RB5.out.below hbY) rfl rfl HBD.out).mono ?_
  rintro e w6 ⟨rfl, rfl⟩
  clear H5 RA5 RB5 B5 KX5 hbY
  go_wp2_with (first | fail)
  refine (Pop_calls H6.out.d).mono ?_
  rintro e w7 ⟨rfl, hb7⟩
  go_wp2_with (first | fail)
  refine (Pop_calls (H6.out.e.below hb7)).mono ?_
  rintro e w8 ⟨rfl, hb8⟩
  rw [← HLV.out]
  have hb78 := next hb7 hb8
  have H8 := Lib.hid (H6.out.below hb78)
  have B8 := Lib.hid (next B6.out hb78)
  have kx := bk_cell (bk_below KX6 hb78)
  have ky := bk_cell (bk_below KY hb78)
  have hpp : ((((livL D).length : Nat) : Int) == (((livL D).length : Nat) : Int)) = true := beq_self_eq_true _
  have hbb : (bb == bb) = true := beq_self_eq_true _
  clear KX6 KY hb7 hb8 hb78 H6 B6
  go_wp2
  go_ret
  exact ⟨rfl, D, E, S, T, H8.out, fun b hb => by rcases hb with h | h; exact .inl h; exact .inr (.inl h), Wrote.of_below B8.out⟩
end Go.Proofs.Ytjhfiibfknhniaa
