/- ring: what is wrong with a grid. -/
import Derived.Test.YtkldffpdlkmncaaFNew
import Derived.Test.YtkldffpdlkmncaaFNone
import Derived.Test.YtkldffpdlkmncaaMa
import Derived.BigQuiet
import Derived.Deep.QuietTactic
set_option linter.unusedVariables false
set_option linter.unusedSimpArgs false
namespace Go.Proofs.Ytkldffpdlkmncaa
open Go.RowKit Go.Viv

/-- what is wrong with a grid and a field -/
def rgE (k W H t s : Int) (D : FD) : Int := if checkE k W H t s ≠ 0 then 9 else if W = 0 ∨ H = 0 then 42 else if W ≠ D.W ∨ H ≠ D.H then 21 else 0
theorem rg_drewN (w : World) (n : Nat) : Below w.heap.size w (w.drewN n) := ⟨rfl, rfl, rfl, Nat.le_refl _, fun _ _ => rfl⟩

set_option maxRecDepth 20000 in
set_option maxHeartbeats 4000000 in
theorem rgAsked_none {k W H t s : Int} {q : Option Addr} {w : World} (hq : NoneAt q w) : Calls Try.prog 39 #[topoV k W H t s, .pointer q] w (Ret (.int .i64 1) w) := by
  have HB := Lib.hid (boxed w (.cells #[.int .u8 k, .int .i64 W, .int .i64 H, .int .u8 t, .int .i64 s] 23))
  have hq2 := Lib.hid (hq.below HB.out)
  rcases hq with rfl | ⟨g, rfl, hg⟩
  · clear hq2
    go_enter Try.func39, Try.ntmps39
    go_wp2
    go_ret
    exact Ret.of rfl HB.out
  · clear hg
    go_enter Try.func39, Try.ntmps39
    go_wp2_with (go_at_call 62; ((with_reducible refine (W_none hq2.out).mono ?_); rintro e w' ⟨rfl, rfl⟩))
    go_ret
    exact Ret.of rfl HB.out

theorem rgW_q {g : Nat} {D : FD} {S : Nat → Prop} {w : World} (h : Fld g D S w) : Calls Try.prog 62 #[.pointer (some ⟨g, 0, none⟩)] w fun e w' => e = .returned (.int .i64 D.W) ∧ w' = w := (W_calls h).mono fun _ _ ⟨a, b⟩ => ⟨a, b.symm⟩
theorem rgH_q {g : Nat} {D : FD} {S : Nat → Prop} {w : World} (h : Fld g D S w) : Calls Try.prog 63 #[.pointer (some ⟨g, 0, none⟩)] w fun e w' => e = .returned (.int .i64 D.H) ∧ w' = w := (H_calls h).mono fun _ _ ⟨a, b⟩ => ⟨a, b.symm⟩

set_option maxRecDepth 20000 in
set_option maxHeartbeats 4000000 in
theorem rgAsked_calls {k W H t s : Int} {g : Nat} {D : FD} {S : Nat → Prop} {w : World} (t0 : 0 ≤ t) (hF : Fld g D S w) : Calls Try.prog 39 #[topoV k W H t s, .pointer (some ⟨g, 0, none⟩)] w (Ret (.int .i64 (rgE k W H t s D)) w) := by
  have KT := Lib.hid (bk_new w (.cells #[.int .u8 k, .int .i64 W, .int .i64 H, .int .u8 t, .int .i64 s] 23))
  have HB := Lib.hid (boxed w (.cells #[.int .u8 k, .int .i64 W, .int .i64 H, .int .u8 t, .int .i64 s] 23))
  have HF := Lib.hid (hF.below HB.out)
  have CC := Lib.hid (fun w => Check_calls k W H t s w t0)
  have ok := hF.ok
  have o1 : 0 < D.W := ok.w0
  have o2 : 0 < D.H := ok.h0
  obtain ⟨E, hE⟩ : ∃ E, checkE k W H t s = E := ⟨_, rfl⟩
  rw [hE] at CC
  have hRE : Hid (rgE k W H t s D = if E ≠ 0 then 9 else if W = 0 ∨ H = 0 then 42 else if W ≠ D.W ∨ H ≠ D.H then 21 else 0) := by show _ = _; unfold rgE; rw [hE]
  have hW0 : ((D.W : Int) == 0) = false := beq_eq_false_iff_ne.2 (by omega)
  have hWz : ¬ (D.W = 0) := by omega
  have hWy : (D.W == 0) = false := beq_eq_false_iff_ne.2 hWz
  clear hE ok hF t0
  by_cases c1 : E = 0
  rotate_left
  · have c1' : (E != 0) = true := bne_iff_ne.2 c1
    go_enter Try.func39, Try.ntmps39
    go_wp2_with (first | (go_at_call 62; ((with_reducible refine (W_calls HF.out).mono ?_); rintro e w' ⟨rfl, rfl⟩)) | (go_at_call 69; ((with_reducible refine (CC.out _).mono ?_); rintro e w2 ⟨rfl, hb2⟩)))
    go_ret
    exact Ret.of (by rw [hRE.out, if_pos c1]; rfl) (next HB.out hb2)
  subst c1
  by_cases c2 : W = 0
  · subst c2
    go_enter Try.func39, Try.ntmps39
    go_wp2_with (first | (go_at_call 62; ((with_reducible refine (W_calls HF.out).mono ?_); rintro e w' ⟨rfl, rfl⟩)) | (go_at_call 69; ((with_reducible refine (CC.out _).mono ?_); rintro e w2 ⟨rfl, hb2⟩; have kt2 := bk_cell (bk_below KT.out hb2))))
    go_ret
    exact Ret.of (by rw [hRE.out, if_neg (by simp), if_pos (by simp)]; rfl) (next HB.out hb2)
  have c2' : (W == 0) = false := beq_eq_false_iff_ne.2 c2
  by_cases c3 : H = 0
  · subst c3
    go_enter Try.func39, Try.ntmps39
    go_wp2_with (first | (go_at_call 62; ((with_reducible refine (W_calls HF.out).mono ?_); rintro e w' ⟨rfl, rfl⟩)) | (go_at_call 69; ((with_reducible refine (CC.out _).mono ?_); rintro e w2 ⟨rfl, hb2⟩; have kt2 := bk_cell (bk_below KT.out hb2))))
    go_ret
    exact Ret.of (by rw [hRE.out, if_neg (by simp), if_pos (by simp)]; rfl) (next HB.out hb2)
  have c3' : (H == 0) = false := beq_eq_false_iff_ne.2 c3
  by_cases c4 : W = (D.W : Int)
  rotate_left
  · have c4' : (W != (D.W : Int)) = true := bne_iff_ne.2 c4
    go_enter Try.func39, Try.ntmps39
    go_wp2_with (first | (go_at_call 62; ((with_reducible refine (W_calls HF.out).mono ?_); rintro e w' ⟨rfl, rfl⟩)) | (go_at_call 69; ((with_reducible refine (CC.out _).mono ?_); rintro e w2 ⟨rfl, hb2⟩; have kt2 := bk_cell (bk_below KT.out hb2); have HF2 := Lib.hid (HF.out.below hb2))))
    go_quiet ((first | (go_at_call 62; exact Calls.quiet_of_same (rgW_q (HF2.out.drewN _))) | (go_at_call 63; exact Calls.quiet_of_same (rgH_q (HF2.out.drewN _)))))
    go_wp2
    go_ret
    exact Ret.of (by rw [hRE.out, if_neg (by simp), if_neg (by omega), if_pos (.inl c4)]; rfl) (next (next HB.out hb2) (rg_drewN _ _))
  have c4' : (W != (D.W : Int)) = false := by rw [c4]; simp
  by_cases c5 : H = (D.H : Int)
  rotate_left
  · have c5' : (H != (D.H : Int)) = true := bne_iff_ne.2 c5
    have HC4 := Lib.hid c4
    clear c4
    go_enter Try.func39, Try.ntmps39
    go_wp2_with (first | (go_at_call 62; ((with_reducible refine (W_calls HF.out).mono ?_); rintro e w' ⟨rfl, rfl⟩)) | (go_at_call 69; ((with_reducible refine (CC.out _).mono ?_); rintro e w2 ⟨rfl, hb2⟩; have kt2 := bk_cell (bk_below KT.out hb2); have HF2 := Lib.hid (HF.out.below hb2))))
    go_quiet ((first | (go_at_call 62; exact Calls.quiet_of_same (rgW_q (HF2.out.drewN _))) | (go_at_call 63; exact Calls.quiet_of_same (rgH_q (HF2.out.drewN _)))))
    go_wp2
    go_ret
    exact Ret.of (by rw [hRE.out, if_neg (by simp), if_neg (by omega), if_pos (.inr c5)]; rfl) (next (next HB.out hb2) (rg_drewN _ _))
  · have c5' : (H != (D.H : Int)) = false := by rw [c5]; simp
    have HC4 := Lib.hid c4; have HC5 := Lib.hid c5
    clear c4 c5
    go_enter Try.func39, Try.ntmps39
    go_wp2_with (first | (go_at_call 62; ((with_reducible refine (W_calls HF.out).mono ?_); rintro e w' ⟨rfl, rfl⟩)) | (go_at_call 69; ((with_reducible refine (CC.out _).mono ?_); rintro e w2 ⟨rfl, hb2⟩; have kt2 := bk_cell (bk_below KT.out hb2); have HF2 := Lib.hid (HF.out.below hb2))))
    go_quiet ((first | (go_at_call 62; exact Calls.quiet_of_same (rgW_q (HF2.out.drewN _))) | (go_at_call 63; exact Calls.quiet_of_same (rgH_q (HF2.out.drewN _)))))
    go_wp2
    go_ret
    exact Ret.of (by rw [hRE.out, if_neg (by simp), if_neg (by omega), if_neg (by have := HC4.out; have := HC5.out; omega)]; rfl) (next (next HB.out hb2) (rg_drewN _ _))
end Go.Proofs.Ytkldffpdlkmncaa
