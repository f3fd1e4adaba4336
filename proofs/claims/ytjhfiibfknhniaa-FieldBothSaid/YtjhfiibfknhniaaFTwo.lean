/- The law's own act on two fields at a time. -/
import Derived.Test.YtjhfiibfknhniaaFPack
import Derived.Test.YtjhfiibfknhniaaFSame
set_option linter.unusedVariables false
set_option linter.unusedSimpArgs false
namespace Go.Proofs.Ytjhfiibfknhniaa
open Go.RowKit

/-- two fields of two states with the same cells, the first one of bytes -/
structure TwoSt (f g : Nat) (D E : FD) (S T : Nat → Prop) (w : World) : Prop where
  d : Fld f D S w
  e : Fld g E T w
  far : ∀ b, S b → ¬ T b
  w1 : D.W = E.W
  h1 : D.H = E.H
  s1 : D.St = 2
  s2 : E.St = 2
  pk : D.pk = false
  eq : ∀ y x, y < D.H → x < D.W → D.f y x = E.f y x
section
variable {f g : Nat} {D E : FD} {S T : Nat → Prop} {w w' : World}
theorem TwoSt.below (h : TwoSt f g D E S T w) (hb : Below w.heap.size w w') : TwoSt f g D E S T w' := ⟨h.d.below hb, h.e.below hb, h.far, h.w1, h.h1, h.s1, h.s2, h.pk, h.eq⟩
theorem TwoSt.get (h : TwoSt f g D E S T w) (x y : Int) : getV D x y = getV E x y := by
  unfold getV
  rw [← h.w1, ← h.h1]
  cases hb : hasB D.W D.H x y
  · rfl
  · obtain ⟨h1, h2, h3, h4⟩ := hasB_of hb
    rw [h.eq y.toNat x.toNat (by omega) (by omega)]
theorem TwoSt.put (h : TwoSt f g D E S T w) (x y s : Int) : setE D x y s = setE E x y s ∧ ∀ y' x', y' < D.H → x' < D.W → (D.put x y s).f y' x' = (E.put x y s).f y' x' := by
  unfold setE FD.put
  rw [← h.w1, ← h.h1, h.s1, h.s2]
  refine ⟨rfl, fun y' x' hy hx => ?_⟩
  cases hb : hasB D.W D.H x y
  · simpa using h.eq y' x' hy hx
  · by_cases hs : s < 2
    · simp only [if_true, if_pos hs]
      unfold setF
      split
      · rfl
      · exact h.eq y' x' hy hx
    · simp only [if_true, if_neg hs]
      exact h.eq y' x' hy hx
theorem TwoSt.row (h : TwoSt f g D E S T w) {y : Nat} (hy : y < D.H) : rowI D y = rowI E y := by
  unfold rowI
  rw [← h.w1]
  exact List.map_congr_left fun x hx => h.eq y x hy (List.mem_range.1 hx)
theorem TwoSt.liv (h : TwoSt f g D E S T w) : livL D = livL E := by
  unfold livL livTo
  rw [← h.h1, List.flatMap_def, List.flatMap_def]
  congr 1
  refine List.map_congr_left fun y hy => ?_
  unfold livRow
  rw [← h.w1]
  have : ∀ l : List Nat, (∀ x ∈ l, x < D.W) → l.filterMap (celAt D y) = l.filterMap (celAt E y) := fun l => by
    induction l with
    | nil => intro _; rfl
    | cons a l ih =>
      intro hl
      have e : celAt D y a = celAt E y a := by unfold celAt; rw [h.eq y a (List.mem_range.1 hy) (hl a (by simp))]
      rw [List.filterMap_cons, List.filterMap_cons, e, ih fun x hx => hl x (by simp [hx])]
  exact this _ fun x hx => List.mem_range.1 hx
end

/-- what an act comes to -/
def TwoP (f g : Nat) (S T : Nat → Prop) (w : World) (e : Ending) (w' : World) : Prop :=
  e = .returned (.bool true) ∧ ∃ D' E' S' T', TwoSt f g D' E' S' T' w' ∧ (∀ b, S' b ∨ T' b → S b ∨ T b ∨ w.heap.size ≤ b) ∧ Wrote (fun b => S b ∨ T b) w w'
theorem TwoSt.same {f g : Nat} {D E : FD} {S T : Nat → Prop} {w w' : World} (h : TwoSt f g D E S T w) (hb : Below w.heap.size w w') : TwoP f g S T w (.returned (.bool true)) w' :=
  ⟨rfl, D, E, S, T, h.below hb, fun b hb => by rcases hb with h | h; exact .inl h; exact .inr (.inl h), Wrote.of_below hb⟩

set_option maxRecDepth 20000 in
set_option maxHeartbeats 1000000 in
theorem two_get {f g : Nat} {D E : FD} {S T : Nat → Prop} {w : World} (wh x y s ss : Int) (A : Option Addr) (n c : Nat) (on : Bool) (h : TwoSt f g D E S T w) :
    Calls Try.prog 18 #[.pointer (some ⟨f, 0, none⟩), .pointer (some ⟨g, 0, none⟩), .agg #[.int .i64 0, .int .i64 wh, .int .i64 x, .int .i64 y, .int .u8 s, .int .i64 ss, .slice A n c, .bool on]] w (TwoP f g S T w) := by
  have H := Lib.hid h
  obtain ⟨a, j, hg, hj⟩ : ∃ a j, getV D x y = .tuple #[.int .u8 a, .int .i64 j] ∧ True := by
    cases hb : hasB D.W D.H x y
    · exact ⟨0, 130, by simp [getV, hb], trivial⟩
    · exact ⟨D.f y.toNat x.toNat, 0, by simp [getV, hb], trivial⟩
  have hg2 : getV E x y = .tuple #[.int .u8 a, .int .i64 j] := by rw [← h.get]; exact hg
  have c1 : ∀ w', Fld f D S w' → Calls Try.prog 14 #[.pointer (some ⟨f, 0, none⟩), .int .i64 x, .int .i64 y] w' fun e w'' => e = .returned (.tuple #[.int .u8 a, .int .i64 j]) ∧ Below w'.heap.size w' w'' := fun w' h => by
    have := Get_calls x y h; rw [hg] at this; exact this
  have c2 : ∀ w', Fld g E T w' → Calls Try.prog 14 #[.pointer (some ⟨g, 0, none⟩), .int .i64 x, .int .i64 y] w' fun e w'' => e = .returned (.tuple #[.int .u8 a, .int .i64 j]) ∧ Below w'.heap.size w' w'' := fun w' h => by
    have := Get_calls x y h; rw [hg2] at this; exact this
  have C1 := Lib.hid c1; have C2 := Lib.hid c2
  have haa : (a == a) = true := beq_self_eq_true a
  have hjj : (j == j) = true := beq_self_eq_true j
  clear h c1 c2 hg hg2 hj
  go_enter Try.func18, Try.ntmps18
  go_wp2_with (first | fail)
  have KO := bk_new w (.cells #[.int .i64 0, .int .i64 wh, .int .i64 x, .int .i64 y, .int .u8 s, .int .i64 ss, .slice A n c, .bool on] 41)
  have hbA := boxed w (.cells #[.int .i64 0, .int .i64 wh, .int .i64 x, .int .i64 y, .int .u8 s, .int .i64 ss, .slice A n c, .bool on] 41)
  refine (C1.out _ (H.out.d.below hbA)).mono ?_
  rintro e w2 ⟨rfl, hb2⟩
  have hcO := bk_cell (bk_below KO hb2)
  have hb2' := hbA.trans (hb2.mono hbA.size)
  go_wp2_with (first | fail)
  refine (C2.out _ (H.out.e.below hb2')).mono ?_
  rintro e w3 ⟨rfl, hb3⟩
  go_wp2
  go_ret
  exact H.out.same (hb2'.trans (hb3.mono hb2'.size))

set_option maxRecDepth 20000 in
set_option maxHeartbeats 1000000 in
theorem two_clear {f g : Nat} {D E : FD} {S T : Nat → Prop} {w : World} (wh x y s ss : Int) (A : Option Addr) (n c : Nat) (on : Bool) (h : TwoSt f g D E S T w) :
    Calls Try.prog 18 #[.pointer (some ⟨f, 0, none⟩), .pointer (some ⟨g, 0, none⟩), .agg #[.int .i64 4, .int .i64 wh, .int .i64 x, .int .i64 y, .int .u8 s, .int .i64 ss, .slice A n c, .bool on]] w (TwoP f g S T w) := by
  have H := Lib.hid h
  clear h
  go_enter Try.func18, Try.ntmps18
  go_wp2_with (first | fail)
  have hbA := boxed w (.cells #[.int .i64 4, .int .i64 wh, .int .i64 x, .int .i64 y, .int .u8 s, .int .i64 ss, .slice A n c, .bool on] 41)
  have h1 := H.out.below hbA
  have hcO := bk_cell (bk_new w (.cells #[.int .i64 4, .int .i64 wh, .int .i64 x, .int .i64 y, .int .u8 s, .int .i64 ss, .slice A n c, .bool on] 41))
  refine (Clear_calls h1.d).mono ?_
  rintro e w2 ⟨rfl, hd, hw2⟩
  have he2 := h1.e.wrote hw2 fun b hb hs => h1.far b hs hb
  have HD := Lib.hid hd
  clear hcO hd
  go_wp2_with (first | fail)
  refine (Clear_calls he2).mono ?_
  rintro e w3 ⟨rfl, he, hw3⟩
  have HE := Lib.hid he
  have hd3 := Lib.hid (HD.out.wrote hw3 h1.far)
  have hW : Hid (Wrote (fun b => S b ∨ T b) w w3) := (Wrote.of_below hbA).trans ((hw2.more fun k _ hs => .inl hs).trans (hw3.more fun k _ hs => .inr hs))
  clear he he2 hw2 hw3 HD
  go_wp2
  go_ret
  exact ⟨rfl, _, _, S, T, ⟨hd3.out, HE.out, h1.far, h1.w1, h1.h1, h1.s1, h1.s2, h1.pk, fun _ _ _ _ => rfl⟩, fun b hb => by rcases hb with h | h; exact .inl h; exact .inr (.inl h), hW.out⟩

set_option maxRecDepth 20000 in
set_option maxHeartbeats 1000000 in
theorem two_pack {f g : Nat} {D E : FD} {S T : Nat → Prop} {w : World} (wh x y s ss : Int) (A : Option Addr) (n c : Nat) (on : Bool) (h : TwoSt f g D E S T w) :
    Calls Try.prog 18 #[.pointer (some ⟨f, 0, none⟩), .pointer (some ⟨g, 0, none⟩), .agg #[.int .i64 8, .int .i64 wh, .int .i64 x, .int .i64 y, .int .u8 s, .int .i64 ss, .slice A n c, .bool on]] w (TwoP f g S T w) := by
  have H := Lib.hid h
  clear h
  have hbA := boxed w (.cells #[.int .i64 8, .int .i64 wh, .int .i64 x, .int .i64 y, .int .u8 s, .int .i64 ss, .slice A n c, .bool on] 41)
  have h1 := H.out.below hbA
  have hcO := bk_cell (bk_new w (.cells #[.int .i64 8, .int .i64 wh, .int .i64 x, .int .i64 y, .int .u8 s, .int .i64 ss, .slice A n c, .bool on] 41))
  have hnn : ¬ (on = true ∧ 2 < E.St) := fun ⟨_, b⟩ => by have := h1.s2; omega
  have cp := Pack_calls on h1.e
  unfold PackP at cp
  rw [show packE E on = 0 by unfold packE; rw [if_neg hnn], show E.packed on = { E with pk := on } by unfold FD.packed; rw [if_neg hnn]] at cp
  have CP := Lib.hid cp; clear cp hnn
  have HH := Lib.hid h1; clear h1
  have HBA := Lib.hid hbA
  clear hbA
  go_enter Try.func18, Try.ntmps18
  go_wp2_with (first | fail)
  refine CP.out.mono ?_
  rintro e w2 ⟨rfl, T', he, hT, hw2⟩
  have hT' : ∀ b, T' b → T b ∨ w.heap.size ≤ b := fun b hb => by
    rcases hT b hb with h | h
    · exact .inl h
    · exact .inr (Nat.le_trans HBA.out.size h)
  have hfar : ∀ b, S b → ¬ T' b := fun b hs ht => by
    rcases hT b ht with h | h
    · exact HH.out.far b hs h
    · have := HH.out.d.lt b hs; omega
  have HP : Hid (TwoP f g S T w (.returned (.bool true)) w2) := ⟨rfl, _, _, S, T', ⟨HH.out.d.wrote hw2 HH.out.far, he, hfar, HH.out.w1, HH.out.h1, HH.out.s1, HH.out.s2, HH.out.pk, HH.out.eq⟩,
    fun b hb => by rcases hb with h | h; exact .inl h; exact .inr (hT' b h), (Wrote.of_below HBA.out).trans (hw2.more fun k _ hs => .inr hs)⟩
  clear he hT hw2 hT' hfar
  go_wp2
  go_ret
  exact HP.out
end Go.Proofs.Ytjhfiibfknhniaa
