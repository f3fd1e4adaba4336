/- law13.two: Set. -/
import Derived.Test.YtjhfiibfknhniaaFTwo
import Derived.Test.YtjhfiibfknhniaaFMid
import Derived.Deep.RegionHeld3
set_option linter.unusedVariables false
set_option linter.unusedSimpArgs false
namespace Go.Proofs.Ytjhfiibfknhniaa
open Go.RowKit

theorem TwoSt.setP {f g : Nat} {D E : FD} {S T : Nat → Prop} {w w3 : World} (h : TwoSt f g D E S T w) (x y s : Int) (hd : Fld f (D.put x y s) S w3) (he : Fld g (E.put x y s) T w3) (hw : Wrote (fun b => S b ∨ T b) w w3) : TwoP f g S T w (.returned (.bool true)) w3 := by
  obtain ⟨a1, a2, a3, a4⟩ := D.put_like x y s
  obtain ⟨b1, b2, b3, b4⟩ := E.put_like x y s
  refine ⟨rfl, _, _, S, T, ⟨hd, he, h.far, by rw [a1, b1]; exact h.w1, by rw [a2, b2]; exact h.h1, by rw [a3]; exact h.s1, by rw [b3]; exact h.s2, by rw [a4]; exact h.pk, fun y' x' hy hx => (h.put x y s).2 y' x' (by rw [← a2]; exact hy) (by rw [← a1]; exact hx)⟩, fun b hb => by rcases hb with h | h; exact .inl h; exact .inr (.inl h), hw⟩

set_option maxRecDepth 20000 in
set_option maxHeartbeats 2000000 in
theorem two_set {f g : Nat} {D E : FD} {S T : Nat → Prop} {w : World} (wh x y s ss : Int) (A : Option Addr) (n c : Nat) (on : Bool) (h : TwoSt f g D E S T w) (hs : 0 ≤ s ∧ s ≤ 255) :
    Calls Try.prog 18 #[.pointer (some ⟨f, 0, none⟩), .pointer (some ⟨g, 0, none⟩), .agg #[.int .i64 1, .int .i64 wh, .int .i64 x, .int .i64 y, .int .u8 s, .int .i64 ss, .slice A n c, .bool on]] w (TwoP f g S T w) := by
  have H := Lib.hid h
  have hbA := boxed w (.cells #[.int .i64 1, .int .i64 wh, .int .i64 x, .int .i64 y, .int .u8 s, .int .i64 ss, .slice A n c, .bool on] 41)
  have KO := bk_new w (.cells #[.int .i64 1, .int .i64 wh, .int .i64 x, .int .i64 y, .int .u8 s, .int .i64 ss, .slice A n c, .bool on] 41)
  have hcO := bk_cell KO
  have M0 : Hid (Mid f g D (D.put x y s) E (E.put x y s) S T w (w.alloc (.cells #[.int .i64 1, .int .i64 wh, .int .i64 x, .int .i64 y, .int .u8 s, .int .i64 ss, .slice A n c, .bool on] 41))) :=
    ⟨.inl (h.d.below hbA), .inl (h.e.below hbA), Wrote.of_below hbA, h.far⟩
  have hse := (h.put x y s).1
  obtain ⟨v, hv⟩ : ∃ v, setE D x y s = v := ⟨_, rfl⟩
  have hv2 : setE E x y s = v := by rw [← hse]; exact hv
  have HV := Lib.hid hv; have HV2 := Lib.hid hv2
  have hvv : (v == v) = true := beq_self_eq_true v
  have hSk : ∀ b, S b ∨ T b → b < w.heap.size := fun b hb => by rcases hb with hb | hb; exact h.d.lt b hb; exact h.e.lt b hb
  have KP : Hid (∀ W2, Mid f g D (D.put x y s) E (E.put x y s) S T (w.alloc (.cells #[.int .i64 1, .int .i64 wh, .int .i64 x, .int .i64 y, .int .u8 s, .int .i64 ss, .slice A n c, .bool on] 41)) W2 → W2.cell? ⟨w.heap.size, 2, none⟩ = some (.int .i64 x) ∧ W2.cell? ⟨w.heap.size, 3, none⟩ = some (.int .i64 y) ∧ W2.cell? ⟨w.heap.size, 4, none⟩ = some (.int .u8 s)) := fun W2 m => by
    have kb := m.block KO (fun hh => Nat.lt_irrefl _ (hSk _ (.inl hh))) (fun hh => Nat.lt_irrefl _ (hSk _ (.inr hh)))
    exact ⟨bk_cell kb 2, bk_cell kb 3, bk_cell kb 4⟩
  replace M0 : Hid (Mid f g D (D.put x y s) E (E.put x y s) S T (w.alloc (.cells #[.int .i64 1, .int .i64 wh, .int .i64 x, .int .i64 y, .int .u8 s, .int .i64 ss, .slice A n c, .bool on] 41)) (w.alloc (.cells #[.int .i64 1, .int .i64 wh, .int .i64 x, .int .i64 y, .int .u8 s, .int .i64 ss, .slice A n c, .bool on] 41))) :=
    ⟨M0.out.d, M0.out.e, Wrote.refl _ _, h.far⟩
  have HB := Lib.hid hbA
  clear h hv hv2 hse hSk hbA KO
  go_enter Try.func18, Try.ntmps18
  go_wp2_with (first | fail)
  generalize (w.alloc (.cells #[.int .i64 1, .int .i64 wh, .int .i64 x, .int .i64 y, .int .u8 s, .int .i64 ss, .slice A n c, .bool on] 41)) = W1 at *
  go_region_held3 (fun w' => w'.cell? ⟨w.heap.size, 2, none⟩ = some (.int .i64 x) ∧ w'.cell? ⟨w.heap.size, 3, none⟩ = some (.int .i64 y) ∧ w'.cell? ⟨w.heap.size, 4, none⟩ = some (.int .u8 s) ∧ Mid f g D (D.put x y s) E (E.put x y s) S T W1 w')
    (first
      | exact ⟨hcO 2, hcO 3, hcO 4, M0.out.below (Below.refl _ _).drew⟩
      | (have m_ := Mid.fst (by assumption) (And.right (And.right (And.right (by assumption)))) P1; exact ⟨(KP.out _ m_).1, (KP.out _ m_).2.1, (KP.out _ m_).2.2, m_⟩)
      | (have m_ := Mid.snd (by assumption) (And.right (And.right (And.right (by assumption)))) P1; exact ⟨(KP.out _ m_).1, (KP.out _ m_).2.1, (KP.out _ m_).2.2, m_⟩))
    (first
      | (go_at_call_of 25 (Value.pointer (some ⟨f, 0, none⟩)); ((with_reducible refine (set_mid x y s v HV.out (Mid.d (And.right (And.right (And.right (by assumption))))) hs).mono ?_); rintro e w1 ⟨rfl, P1, hw1⟩; have PF := Lib.hid P1))
      | (go_at_call_of 25 (Value.pointer (some ⟨g, 0, none⟩)); ((with_reducible refine (set_mid x y s v HV2.out (Mid.e (And.right (And.right (And.right (by assumption))))) hs).mono ?_); rintro e w1 ⟨rfl, P1, hw1⟩)))
  have hF := Lib.hid (PF.out.wrote hw1 M0.out.far)
  have hM := Lib.hid (Mid.wr (And.right (And.right (And.right (by assumption)))))
  have hP := Lib.hid P1
  go_wp2
  go_ret
  exact H.out.setP x y s hF.out hP.out ((Wrote.of_below HB.out).trans hM.out)
end Go.Proofs.Ytjhfiibfknhniaa
