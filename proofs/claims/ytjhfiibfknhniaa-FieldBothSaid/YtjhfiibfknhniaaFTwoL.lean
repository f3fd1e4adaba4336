/- law13.two: Lay. -/
import Derived.Test.YtjhfiibfknhniaaFTwoS
import Derived.Test.YtjhfiibfknhniaaFLnM
set_option linter.unusedVariables false
set_option linter.unusedSimpArgs false
namespace Go.Proofs.Ytjhfiibfknhniaa
open Go.RowKit

theorem FD.lay_like (D : FD) (y : Int) (l : List Int) : (D.lay y l).W = D.W ∧ (D.lay y l).H = D.H ∧ (D.lay y l).St = D.St ∧ (D.lay y l).pk = D.pk := by
  unfold FD.lay
  split <;> exact ⟨rfl, rfl, rfl, rfl⟩
theorem layF_layF (f : Nat → Nat → Int) (y k : Nat) (l : List Int) : layF (layF f y k l) y k l = layF f y k l := by
  funext y' x'; unfold layF; split <;> rfl
theorem layE_lay (D : FD) (y : Int) (l : List Int) : layE (D.lay y l) y l = layE D y l := by
  obtain ⟨a1, a2, a3, a4⟩ := D.lay_like y l
  unfold layE
  rw [a1, a2, a3]
theorem FD.lay_lay (D : FD) (y : Int) (l : List Int) : (D.lay y l).lay y l = D.lay y l := by
  by_cases h : layE D y l = 0
  · have e : D.lay y l = { D with f := layF D.f y.toNat D.W l } := by unfold FD.lay; rw [if_pos h]
    have h2 := layE_lay D y l
    rw [h] at h2
    rw [e] at h2 ⊢
    unfold FD.lay
    rw [if_pos h2, layF_layF]
  · have e : D.lay y l = D := by unfold FD.lay; rw [if_neg h]
    rw [e, e]
theorem lay_mid {g : Nat} {D : FD} {S : Nat → Prop} {w : World} (y v : Int) (A : Option Addr) (n c : Nat) (l : List Int) (hv : layE D y l = v) (h : Fld g D S w ∨ Fld g (D.lay y l) S w) (hn : l.length = n) (hnb : n ≤ 9223372036854775807) (hr : Rd w A (l.map (.int .u8))) (hbl : ∀ z ∈ l, 0 ≤ z ∧ z ≤ 255)
    (hA : 0 < n → ∃ b off, A = some ⟨b, off, none⟩ ∧ ¬ S b ∧ b < w.heap.size) :
    Calls Try.prog 11 #[.pointer (some ⟨g, 0, none⟩), .int .i64 y, .slice A n c] w fun e w' => e = .returned (.int .i64 v) ∧ Fld g (D.lay y l) S w' ∧ Wrote S w w' := by
  subst hv
  rcases h with h | h
  · exact Lay_calls y A n c l h hn hnb hr hbl hA
  · have := Lay_calls y A n c l h hn hnb hr hbl hA
    unfold LayP at this
    rw [FD.lay_lay, layE_lay] at this
    exact this
section
variable {f g : Nat} {D E : FD} {S T : Nat → Prop} {w w' : World}
theorem TwoSt.lay (h : TwoSt f g D E S T w) (y : Int) (l : List Int) : layE D y l = layE E y l ∧ ∀ y' x', y' < D.H → x' < D.W → (D.lay y l).f y' x' = (E.lay y l).f y' x' := by
  have e : layE D y l = layE E y l := by unfold layE; rw [← h.w1, ← h.h1, h.s1, h.s2]
  refine ⟨e, fun y' x' hy hx => ?_⟩
  unfold FD.lay
  rw [← e, ← h.w1]
  split
  · simp only
    unfold layF
    split
    · rfl
    · exact h.eq y' x' hy hx
  · exact h.eq y' x' hy hx
theorem TwoSt.layP {w3 : World} (h : TwoSt f g D E S T w) (y : Int) (l : List Int) (hd : Fld f (D.lay y l) S w3) (he : Fld g (E.lay y l) T w3) (hw : Wrote (fun b => S b ∨ T b) w w3) : TwoP f g S T w (.returned (.bool true)) w3 := by
  obtain ⟨a1, a2, a3, a4⟩ := D.lay_like y l
  obtain ⟨b1, b2, b3, b4⟩ := E.lay_like y l
  refine ⟨rfl, _, _, S, T, ⟨hd, he, h.far, by rw [a1, b1]; exact h.w1, by rw [a2, b2]; exact h.h1, by rw [a3]; exact h.s1, by rw [b3]; exact h.s2, by rw [a4]; exact h.pk, fun y' x' hy hx => (h.lay y l).2 y' x' (by rw [← a2]; exact hy) (by rw [← a1]; exact hx)⟩, fun b hb => by rcases hb with h | h; exact .inl h; exact .inr (.inl h), hw⟩
end
theorem Fld.below' {g : Nat} {D : FD} {S : Nat → Prop} {w w' : World} (h : Fld g D S w) (hb : Below w.heap.size w w') : Fld g D S w' := h.below hb
theorem own_far {w : World} {base size n c m : Nat} {e : TypeId} {A : Option Addr} {xs : List Value} (h : w.ownsRow base e size (.slice A m c) n xs) {S : Nat → Prop} (hS : ∀ b, S b → b < base) : 0 < n → ∃ b off, A = some ⟨b, off, none⟩ ∧ ¬ S b ∧ b < w.heap.size := fun hp => by
  obtain ⟨g, e, h1, h2⟩ := own_at h hp
  exact ⟨g, 0, e, fun hs => absurd (hS g hs) (by omega), h2⟩
theorem Rd.wrote {w w' : World} {A : Option Addr} {xs : List Value} {S : Nat → Prop} {n : Nat} (h : Rd w A xs) (hn : xs.length = n) (hA : 0 < n → ∃ b off, A = some ⟨b, off, none⟩ ∧ ¬ S b ∧ b < w.heap.size) (hw : Wrote S w w') : Rd w' A xs := by
  refine ⟨h.1, fun ad ha j u hu => ?_⟩
  have hj : j < xs.length := (List.getElem?_eq_some_iff.1 hu).1
  obtain ⟨b, off, e, hb, hl⟩ := hA (by omega)
  rw [e] at ha
  obtain rfl := Option.some.inj ha
  have h1 := h.2 _ e j u hu
  rw [World.cell?_of_block (w := w) (w' := w') (by show w'.heap[(Addr.add ⟨b, off, none⟩ j).block]? = _; have : (Addr.add ⟨b, off, none⟩ j).block = b := by unfold Addr.add; split <;> rfl
                                                   rw [this]; exact hw.block b hl hb)]
  exact h1
set_option maxRecDepth 20000 in
set_option maxHeartbeats 2000000 in
theorem two_lay {f g : Nat} {D E : FD} {S T : Nat → Prop} {w : World} (wh x y s ss : Int) (A : Option Addr) (c : Nat) (l : List Int) (on : Bool) (h : TwoSt f g D E S T w) (hnb : l.length ≤ 140737488351232) (hr : Rd w A (l.map (.int .u8))) (hbl : ∀ z ∈ l, 0 ≤ z ∧ z ≤ 255) :
    Calls Try.prog 18 #[.pointer (some ⟨f, 0, none⟩), .pointer (some ⟨g, 0, none⟩), .agg #[.int .i64 3, .int .i64 wh, .int .i64 x, .int .i64 y, .int .u8 s, .int .i64 ss, .slice A l.length c, .bool on]] w (TwoP f g S T w) := by
  have H := Lib.hid h
  have hbA := boxed w (.cells #[.int .i64 3, .int .i64 wh, .int .i64 x, .int .i64 y, .int .u8 s, .int .i64 ss, .slice A l.length c, .bool on] 41)
  have KO := Lib.hid (bk_new w (.cells #[.int .i64 3, .int .i64 wh, .int .i64 x, .int .i64 y, .int .u8 s, .int .i64 ss, .slice A l.length c, .bool on] 41))
  have hcO := bk_cell KO.out
  have HRD := Lib.hid (hr.below hbA)
  have hse := (h.lay y l).1
  obtain ⟨v, hv⟩ : ∃ v, layE D y l = v := ⟨_, rfl⟩
  have hv2 : layE E y l = v := by rw [← hse]; exact hv
  have HV := Lib.hid hv; have HV2 := Lib.hid hv2
  have hvv : (v == v) = true := beq_self_eq_true v
  have hSk : Hid (∀ b, S b ∨ T b → b < w.heap.size + 1) := fun b hb => by rcases hb with hb | hb; exact Nat.lt_succ_of_lt (h.d.lt b hb); exact Nat.lt_succ_of_lt (h.e.lt b hb)
  have hSk2 : Hid (∀ b, S b ∨ T b → b < w.heap.size) := fun b hb => by rcases hb with hb | hb; exact h.d.lt b hb; exact h.e.lt b hb
  have HB := Lib.hid hbA
  have HBL := Lib.hid hbl
  obtain ⟨n, hn⟩ : ∃ n, l.length = n := ⟨_, rfl⟩
  have HN := Lib.hid hn
  rw [hn] at KO hcO HRD HB hnb ⊢
  clear h hv hv2 hse hbA hr hbl hn
  go_enter Try.func18, Try.ntmps18
  go_wp2_with (at_builtin; (refine app_rd rfl _ _ 28 (by rfl) (w.heap.size + 1) 5 (.int .u8 0) 1 1 Try.underlying28 (by kernel_rfl) rfl (by decide) (.slice none 0 0) 0 [] (by rfl) (World.ownsRow_nil _ _ _ _) A n c (l.map (.int .u8)) (by rfl) HRD.out (by simp [HN.out]) (by simp [Value.oneCell']) (by unfold maxLen; omega) (by omega) (by simp) ?_); intro v1 w2 hown hb2 hg2; obtain ⟨A1, c1, rfl⟩ := own_slice hown)
  rw [Nat.zero_add] at hown
  rw [List.nil_append] at hown
  have hr1 := Rd.of_own hown
  have ha1 : Hid (0 < n → ∃ b off, A1 = some ⟨b, off, none⟩ ∧ ¬ (fun b => S b ∨ T b) b ∧ b < w2.heap.size) := own_far hown hSk.out
  have kO := (hb2.block w.heap.size (Nat.lt_succ_self _)).trans KO.out
  have hcO2 := bk_cell kO
  have HB2 := Lib.hid (HB.out.trans (hb2.mono (Nat.le_succ _)))
  have M0 : Hid (Mid f g D (D.lay y l) E (E.lay y l) S T w2 w2) := ⟨.inl (H.out.d.below' HB2.out), .inl (H.out.e.below' HB2.out), Wrote.refl _ _, H.out.far⟩
  have KP : Hid (∀ W2, Mid f g D (D.lay y l) E (E.lay y l) S T w2 W2 → W2.cell? ⟨w.heap.size, 3, none⟩ = some (.int .i64 y) ∧ Rd W2 A1 (l.map (.int .u8)) ∧ (0 < n → ∃ b off, A1 = some ⟨b, off, none⟩ ∧ ¬ S b ∧ b < W2.heap.size) ∧ (0 < n → ∃ b off, A1 = some ⟨b, off, none⟩ ∧ ¬ T b ∧ b < W2.heap.size)) := fun W2 m => by
    have kb := m.block kO (fun hh => Nat.lt_irrefl _ (hSk2.out _ (.inl hh))) (fun hh => Nat.lt_irrefl _ (hSk2.out _ (.inr hh)))
    refine ⟨bk_cell kb 3, hr1.wrote (by rw [List.length_map]; exact HN.out) ha1.out m.wr, fun hp => ?_, fun hp => ?_⟩
    · obtain ⟨b, off, e, h1, h2⟩ := ha1.out hp
      exact ⟨b, off, e, fun hs => h1 (.inl hs), Nat.lt_of_lt_of_le h2 m.wr.size⟩
    · obtain ⟨b, off, e, h1, h2⟩ := ha1.out hp
      exact ⟨b, off, e, fun hs => h1 (.inr hs), Nat.lt_of_lt_of_le h2 m.wr.size⟩
  clear hown hr1 kO hb2 hg2 hcO KO HRD HB
  go_region_held3 (fun w' => w'.cell? ⟨w.heap.size, 3, none⟩ = some (.int .i64 y) ∧ Mid f g D (D.lay y l) E (E.lay y l) S T w2 w')
    (first
      | exact ⟨hcO2 3, M0.out.below (Below.refl _ _).drew⟩
      | (have m_ := Mid.fst (by assumption) (And.right (by assumption)) P1; exact ⟨(KP.out _ m_).1, m_⟩)
      | (have m_ := Mid.snd (by assumption) (And.right (by assumption)) P1; exact ⟨(KP.out _ m_).1, m_⟩))
    (first
      | (go_at_call_of 11 (Value.pointer (some ⟨f, 0, none⟩)); ((with_reducible refine (lay_mid y v A1 n c1 l HV.out (Mid.d (And.right (by assumption))) HN.out (by omega) (KP.out _ (And.right (by assumption))).2.1 HBL.out (KP.out _ (And.right (by assumption))).2.2.1).mono ?_); rintro e w1 ⟨rfl, P1, hw1⟩; have PF := Lib.hid P1))
      | (go_at_call_of 11 (Value.pointer (some ⟨g, 0, none⟩)); ((with_reducible refine (lay_mid y v A1 n c1 l HV2.out (Mid.e (And.right (by assumption))) HN.out (by omega) (KP.out _ (And.right (by assumption))).2.1 HBL.out (KP.out _ (And.right (by assumption))).2.2.2).mono ?_); rintro e w1 ⟨rfl, P1, hw1⟩)))
  have hF := Lib.hid (PF.out.wrote hw1 M0.out.far)
  have hM := Lib.hid (Mid.wr (And.right (by assumption)))
  have hP := Lib.hid P1
  go_wp2
  go_ret
  exact H.out.layP y l hF.out hP.out ((Wrote.of_below HB2.out).trans hM.out)
end Go.Proofs.Ytjhfiibfknhniaa
