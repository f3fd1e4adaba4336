/- Is there a place, a state? A field's sizes. -/
import Derived.Test.YtkldffpdlkmncaaFFld
set_option linter.unusedVariables false
set_option linter.unusedSimpArgs false
namespace Go.Proofs.Ytkldffpdlkmncaa
open Go.RowKit

def hasB (W H : Nat) (x y : Int) : Bool := decide (0 ≤ x ∧ x < W ∧ 0 ≤ y ∧ y < H)
theorem hasB_yes {W H : Nat} {x y : Int} (h1 : 0 ≤ x) (h2 : x < W) (h3 : 0 ≤ y) (h4 : y < H) : hasB W H x y = true := by simp [hasB, *]
theorem hasB_of {W H : Nat} {x y : Int} (h : hasB W H x y = true) : 0 ≤ x ∧ x < W ∧ 0 ≤ y ∧ y < H := by simpa [hasB] using h
theorem hasB_not {W H : Nat} {x y : Int} (h : ¬ (0 ≤ x ∧ x < W ∧ 0 ≤ y ∧ y < H)) : hasB W H x y = false := by simp only [hasB, decide_eq_false_iff_not]; exact h

theorem has_calls (W H : Nat) (St x y : Int) (w : World) : Calls Try.prog 55 #[.agg #[.int .i64 W, .int .i64 H, .int .i64 St], .int .i64 x, .int .i64 y] w fun e w' => e = .returned (.bool (hasB W H x y)) ∧ Below w.heap.size w w' := by
  by_cases h1 : 0 ≤ x
  · by_cases h2 : x < (W : Int)
    · by_cases h3 : 0 ≤ y
      · by_cases h4 : y < (H : Int)
        · have e := Lib.hid (hasB_yes h1 h2 h3 h4)
          go_enter Try.func55, Try.ntmps55
          go_wp2
          go_ret
          exact ⟨by rw [e.out]; rfl, boxed _ _⟩
        · have e := Lib.hid (hasB_not (W := W) (H := H) (x := x) (y := y) (by omega))
          go_enter Try.func55, Try.ntmps55
          go_wp2
          go_ret
          exact ⟨by rw [e.out]; rfl, boxed _ _⟩
      · have e := Lib.hid (hasB_not (W := W) (H := H) (x := x) (y := y) (by omega))
        go_enter Try.func55, Try.ntmps55
        go_wp2
        go_ret
        exact ⟨by rw [e.out]; rfl, boxed _ _⟩
    · have e := Lib.hid (hasB_not (W := W) (H := H) (x := x) (y := y) (by omega))
      go_enter Try.func55, Try.ntmps55
      go_wp2
      go_ret
      exact ⟨by rw [e.out]; rfl, boxed _ _⟩
  · have e := Lib.hid (hasB_not (W := W) (H := H) (x := x) (y := y) (by omega))
    go_enter Try.func55, Try.ntmps55
    go_wp2
    go_ret
    exact ⟨by rw [e.out]; rfl, boxed _ _⟩

theorem knows_calls (W H : Nat) (St s : Int) (w : World) (h0 : 0 ≤ s) (h1 : s ≤ 255) : Calls Try.prog 57 #[.agg #[.int .i64 W, .int .i64 H, .int .i64 St], .int .u8 s] w fun e w' => e = .returned (.bool (decide (s < St))) ∧ Below w.heap.size w w' := by
  by_cases h : s < St
  · go_enter Try.func57, Try.ntmps57
    go_wp2
    go_ret
    exact ⟨by simp [h], boxed _ _⟩
  · go_enter Try.func57, Try.ntmps57
    go_wp2
    go_ret
    exact ⟨by simp [h], boxed _ _⟩

section
variable {g : Nat} {D : FD} {S : Nat → Prop} {w : World}
theorem W_calls (h : Fld g D S w) : Calls Try.prog 62 #[.pointer (some ⟨g, 0, none⟩)] w fun e w' => e = .returned (.int .i64 D.W) ∧ w = w' := by
  obtain ⟨gr, G, a, hS⟩ := h.ex
  obtain ⟨c, hc⟩ := a.fld
  have hcc := bk_cell hc
  have H0 := none_no h
  clear a hS h hc
  go_enter Try.func62, Try.ntmps62
  go_wp2_with (go_at_call 54; ((with_reducible refine H0.mono ?_); rintro e w' ⟨rfl, rfl⟩))
  go_ret
  exact ⟨rfl, rfl⟩
theorem H_calls (h : Fld g D S w) : Calls Try.prog 63 #[.pointer (some ⟨g, 0, none⟩)] w fun e w' => e = .returned (.int .i64 D.H) ∧ w = w' := by
  obtain ⟨gr, G, a, hS⟩ := h.ex
  obtain ⟨c, hc⟩ := a.fld
  have hcc := bk_cell hc
  have H0 := none_no h
  clear a hS h hc
  go_enter Try.func63, Try.ntmps63
  go_wp2_with (go_at_call 54; ((with_reducible refine H0.mono ?_); rintro e w' ⟨rfl, rfl⟩))
  go_ret
  exact ⟨rfl, rfl⟩
theorem States_calls (h : Fld g D S w) : Calls Try.prog 42 #[.pointer (some ⟨g, 0, none⟩)] w fun e w' => e = .returned (.int .i64 D.St) ∧ w = w' := by
  obtain ⟨gr, G, a, hS⟩ := h.ex
  obtain ⟨c, hc⟩ := a.fld
  have hcc := bk_cell hc
  have H0 := none_no h
  clear a hS h hc
  go_enter Try.func42, Try.ntmps42
  go_wp2_with (go_at_call 54; ((with_reducible refine H0.mono ?_); rintro e w' ⟨rfl, rfl⟩))
  go_ret
  exact ⟨rfl, rfl⟩
theorem Packed_calls (h : Fld g D S w) : Calls Try.prog 64 #[.pointer (some ⟨g, 0, none⟩)] w fun e w' => e = .returned (.bool D.pk) ∧ w = w' := by
  obtain ⟨gr, G, a, hS⟩ := h.ex
  obtain ⟨c, hc⟩ := a.fld
  have hcc := bk_cell hc
  have H0 := none_no h
  clear a hS h hc
  go_enter Try.func64, Try.ntmps64
  go_wp2_with (go_at_call 54; ((with_reducible refine H0.mono ?_); rintro e w' ⟨rfl, rfl⟩))
  go_ret
  exact ⟨rfl, rfl⟩
end

/-- what Get answers -/
def getV (D : FD) (x y : Int) : Value := if hasB D.W D.H x y then .tuple #[.int .u8 (D.f y.toNat x.toNat), .int .i64 0] else .tuple #[.int .u8 0, .int .i64 130]

set_option maxRecDepth 20000 in
set_option maxHeartbeats 2000000 in
theorem Get_calls {g : Nat} {D : FD} {S : Nat → Prop} {w : World} (x y : Int) (h : Fld g D S w) : Calls Try.prog 24 #[.pointer (some ⟨g, 0, none⟩), .int .i64 x, .int .i64 y] w fun e w' => e = .returned (getV D x y) ∧ Below w.heap.size w w' := by
  have hmb : ∀ (u : Value) (W : World), (method 276 143 (.agg #[u]) "vivarium/field.get").run Try.prog W = .ok (128, .agg #[u]) W := fun _ _ => by kernel_rfl
  have hmt : ∀ (u : Value) (W : World), (method 276 139 (.agg #[u]) "vivarium/field.get").run Try.prog W = .ok (124, .agg #[u]) W := fun _ _ => by kernel_rfl
  obtain ⟨gr, G, a, hS⟩ := h.ex
  obtain ⟨c, hc⟩ := a.fld
  have H0 := none_no h
  obtain ⟨W, H, St, pk, f⟩ := D
  cases pk
  · simp only [stT, if_true, Bool.false_eq_true, if_false] at hc
    have hcc := bk_cell hc
    cases hb : hasB W H x y
    · have HB := Lib.hid hb; clear hb
      go_enter Try.func24, Try.ntmps24
      go_wp2_with (first | (go_at_call 54; ((with_reducible refine H0.mono ?_); rintro e w' ⟨rfl, rfl⟩)) | (go_at_call 55; ((with_reducible refine (has_calls _ _ _ _ _ _).mono ?_); rintro e w' ⟨rfl, hb1⟩; rw [HB.out])))
      go_ret2
      exact ⟨by simp [getV, HB.out], hb1⟩
    · obtain ⟨h1, h2, h3, h4⟩ := hasB_of hb
      have HB := Lib.hid hb; clear hb
      obtain ⟨x, rfl⟩ := Int.eq_ofNat_of_zero_le h1
      obtain ⟨y, rfl⟩ := Int.eq_ofNat_of_zero_le h3
      have HA := Lib.hid (show BytesAt gr W H f G w from a.st)
      have hok := a.ok
      have b1 := hok.h1; have b2 := hok.w1
      simp only at b1 b2
      clear a hS h hok
      go_enter Try.func24, Try.ntmps24
      go_wp2_with (first | (go_at_call 54; ((with_reducible refine H0.mono ?_); rintro e w' ⟨rfl, rfl⟩)) | (go_at_call 55; ((with_reducible refine (has_calls _ _ _ _ _ _).mono ?_); rintro e w1 ⟨rfl, hb1⟩; rw [HB.out]; have hc1 := bk_cell (bk_below hc hb1))))
      refine (bget (HA.out.below hb1) x y (by omega) (by omega) b1 b2).mono ?_
      rintro e w2 ⟨rfl, rfl⟩
      go_wp2
      go_ret2
      exact ⟨by simp [getV, HB.out], hb1.trans ((boxed _ _).mono hb1.size)⟩
  · simp only [stT, if_true, Bool.false_eq_true, if_false] at hc
    have hcc := bk_cell hc
    cases hb : hasB W H x y
    · have HB := Lib.hid hb; clear hb
      go_enter Try.func24, Try.ntmps24
      go_wp2_with (first | (go_at_call 54; ((with_reducible refine H0.mono ?_); rintro e w' ⟨rfl, rfl⟩)) | (go_at_call 55; ((with_reducible refine (has_calls _ _ _ _ _ _).mono ?_); rintro e w' ⟨rfl, hb1⟩; rw [HB.out])))
      go_ret2
      exact ⟨by simp [getV, HB.out], hb1⟩
    · obtain ⟨h1, h2, h3, h4⟩ := hasB_of hb
      have HB := Lib.hid hb; clear hb
      obtain ⟨x, rfl⟩ := Int.eq_ofNat_of_zero_le h1
      obtain ⟨y, rfl⟩ := Int.eq_ofNat_of_zero_le h3
      have HA := Lib.hid (show BitsAt gr W H f G w from a.st)
      have hok := a.ok
      have b1 := hok.h1; have b2 := hok.w1
      simp only at b1 b2
      clear a hS h hok
      go_enter Try.func24, Try.ntmps24
      go_wp2_with (first | (go_at_call 54; ((with_reducible refine H0.mono ?_); rintro e w' ⟨rfl, rfl⟩)) | (go_at_call 55; ((with_reducible refine (has_calls _ _ _ _ _ _).mono ?_); rintro e w1 ⟨rfl, hb1⟩; rw [HB.out]; have hc1 := bk_cell (bk_below hc hb1))))
      refine (tget (HA.out.below hb1) x y (by omega) (by omega) b1 b2).mono ?_
      rintro e w2 ⟨rfl, rfl⟩
      go_wp2
      go_ret2
      exact ⟨by simp [getV, HB.out], hb1.trans ((boxed _ _).mono hb1.size)⟩
end Go.Proofs.Ytkldffpdlkmncaa
