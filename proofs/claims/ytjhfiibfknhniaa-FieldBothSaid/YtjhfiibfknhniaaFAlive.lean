/- The laws' own first look at a field. -/
import Derived.Test.YtjhfiibfknhniaaFSm
import Derived.Test.YtjhfiibfknhniaaFSame
set_option linter.unusedVariables false
set_option linter.unusedSimpArgs false
namespace Go.Proofs.Ytjhfiibfknhniaa
open Go.RowKit

theorem Rd.of_list {w : World} {g : Nat} {t : TypeId} {cs : Array Value} {xs : List Value} (h : w.heap[g]? = some (.cells cs t (0, 0))) (hx : cs.toList = xs) : Rd w (some ⟨g, 0, none⟩) xs :=
  Rd.of_block h fun j u hu => by rw [← hx] at hu; simpa using hu

def aD0 : FD := zeroD 3 2 4 false
def aD1 : FD := { aD0 with f := setF (fun _ _ => 0) 1 2 3 }

set_option maxRecDepth 20000 in
set_option maxHeartbeats 2000000 in
theorem alive13 (w : World) : Calls Try.prog 10 #[] w (Ret (.bool true) w) := by
  have c1 : ∀ w, Calls Try.prog 9 #[.int .i64 3, .int .i64 2, .int .i64 4, .bool false] w (NewP 3 2 4 false w) := fun w => New_yes 3 2 4 false w (by omega) (by omega) (by omega) (by omega) (by omega) (by omega) (by simp) (by omega)
  have c2 : ∀ (g : Nat) (S : Nat → Prop) (w : World), Fld g aD0 S w → Calls Try.prog 25 #[.pointer (some ⟨g, 0, none⟩), .int .i64 2, .int .i64 1, .int .u8 3] w fun e w' => e = .returned (.int .i64 0) ∧ Fld g aD1 S w' ∧ Wrote S w w' := fun _ _ _ h => Set_calls 2 1 3 h (by omega) (by omega)
  have c3 : ∀ (g : Nat) (S : Nat → Prop) (w : World), Fld g aD1 S w → Calls Try.prog 14 #[.pointer (some ⟨g, 0, none⟩), .int .i64 2, .int .i64 1] w fun e w' => e = .returned (.tuple #[.int .u8 3, .int .i64 0]) ∧ Below w.heap.size w w' := fun _ _ _ h => Get_calls 2 1 h
  have eL : livL aD1 = [(2, 1, 3)] := by decide
  have c4 : ∀ (g : Nat) (S : Nat → Prop) (w : World), Fld g aD1 S w → Calls Try.prog 27 #[.pointer (some ⟨g, 0, none⟩)] w fun e w' => e = .returned (.tuple #[.agg #[.int .i64 2, .int .i64 1, .int .i64 1, .int .i64 1], .bool true]) ∧ Below w.heap.size w w' := fun _ _ _ h => by
    have := Box_calls h; rw [eL] at this; exact this
  have c5 : ∀ (g : Nat) (S : Nat → Prop) (w : World), Fld g aD1 S w → Calls Try.prog 12 #[.pointer (some ⟨g, 0, none⟩), .int .i64 1] w fun e w' => ∃ go cs, e = .returned (.tuple #[.slice (some ⟨go, 0, none⟩) 3 3, .int .i64 0]) ∧ w.heap.size ≤ go ∧ w'.heap[go]? = some (.cells cs 5 (0, 0)) ∧ cs.toList = [0, 0, 3].map (Value.int .u8) ∧ Below w.heap.size w w' := fun _ _ _ h => Line_yes 1 h (by decide)
  have c6 : ∀ (g : Nat) (S : Nat → Prop) (w : World), Fld g aD1 S w → Calls Try.prog 15 #[.pointer (some ⟨g, 0, none⟩)] w fun e w' => e = .returned (.int .i64 1) ∧ Below w.heap.size w w' := fun _ _ _ h => by
    have := Pop_calls h; rw [eL] at this; exact this
  have c7 : ∀ (g : Nat) (S : Nat → Prop) (w : World), Fld g aD1 S w → Calls Try.prog 25 #[.pointer (some ⟨g, 0, none⟩), .int .i64 0, .int .i64 0, .int .u8 4] w fun e w' => e = .returned (.int .i64 7) ∧ Fld g aD1 S w' ∧ Wrote S w w' := fun _ _ _ h => Set_calls 0 0 4 h (by omega) (by omega)
  clear eL
  have C1 := Lib.hid c1; have C2 := Lib.hid c2; have C3 := Lib.hid c3; have C4 := Lib.hid c4; have C5 := Lib.hid c5; have C6 := Lib.hid c6; have C7 := Lib.hid c7
  clear c1 c2 c3 c4 c5 c6 c7
  go_enter Try.func10, Try.ntmps10
  go_wp2_with (first | fail)
  refine (C1.out _).mono ?_
  rintro e w1 ⟨g, S, rfl, hF, hge, hb1⟩
  have HG := Lib.hid hge; clear hge
  go_wp2_with (first | fail)
  refine (C2.out _ _ _ hF).mono ?_
  rintro e w2 ⟨rfl, hF2, hw2⟩
  have hb2 := hb1.trans (hw2.below hb1.size HG.out)
  clear hb1 hw2 hF
  go_wp2_with (first | fail)
  refine (C3.out _ _ _ hF2).mono ?_
  rintro e w3 ⟨rfl, hb⟩
  replace hF2 := hF2.below hb; replace hb2 := hb2.trans (hb.mono hb2.size); clear hb
  go_wp2_with (first | fail)
  refine (C4.out _ _ _ hF2).mono ?_
  rintro e w4 ⟨rfl, hb⟩
  replace hF2 := (hF2.below hb).below (boxed w4 (.cells #[.int .i64 2, .int .i64 1, .int .i64 1, .int .i64 1] 60))
  replace hb2 := (hb2.trans (hb.mono hb2.size)).alloc (Nat.le_trans hb2.size hb.size) (.cells #[.int .i64 2, .int .i64 1, .int .i64 1, .int .i64 1] 60)
  have KX := bk_new w4 (.cells #[.int .i64 2, .int .i64 1, .int .i64 1, .int .i64 1] 60)
  clear hb
  go_wp2_with (first | fail)
  refine (C5.out _ _ _ hF2).mono ?_
  rintro e w5 ⟨go, cs, rfl, hgo, KO, hcs, hb⟩
  replace KX := bk_below KX hb
  replace hF2 := hF2.below hb; replace hb2 := hb2.trans (hb.mono hb2.size); clear hb
  have HR := Lib.hid (Rd.of_list KO hcs); clear hcs KO
  go_wp2_with (first | fail)
  refine (C6.out _ _ _ hF2).mono ?_
  rintro e w6 ⟨rfl, hb⟩
  have HR6 := Lib.hid (HR.out.below hb)
  replace KX := bk_below KX hb
  have hcX := bk_cell KX
  replace hF2 := hF2.below hb; replace hb2 := hb2.trans (hb.mono hb2.size); clear hb HR
  go_wp2_with (first | fail)
  have hbx := boxed w6 (.cells #[.int .u8 0, .int .u8 0, .int .u8 3] 5)
  refine (same13_eq (la := [0, 0, 3]) _ (HR6.out.below hbx) (Rd.of_list (bk_new w6 _) rfl) rfl rfl (by decide)).mono ?_
  rintro e w7 ⟨rfl, rfl⟩
  replace hF2 := hF2.below hbx
  replace hb2 := hb2.alloc hb2.size (.cells #[.int .u8 0, .int .u8 0, .int .u8 3] 5)
  go_wp2_with (first | fail)
  refine (C7.out _ _ _ hF2).mono ?_
  rintro e w8 ⟨rfl, hF3, hw3⟩
  go_wp2
  go_ret
  exact Ret.of rfl (hb2.trans (hw3.below hb2.size HG.out))

set_option maxRecDepth 20000 in
set_option maxHeartbeats 1000000 in
theorem FieldNames_walk (w : World) : Calls Try.prog 3 #[] w (Ret (.bool true) w) := by
  have c1 := New_pack 1 1 3 w (by omega) (by omega) (by omega) (by omega) (by omega) (by omega)
  have c2 := New_budget 1025 1024 2 true w (by omega) (by omega) (by omega) (by omega) (by omega) (by omega) (by omega) (by omega)
  have c3 := New_arg 1 65537 2 true w (by omega)
  have C1 := Lib.hid c1; have C2 := Lib.hid c2; have C3 := Lib.hid c3; clear c1 c2 c3
  go_enter Try.func3, Try.ntmps3
  go_wp2_with (first | fail)
  refine (C1.out).mono ?_
  rintro e w' ⟨rfl, rfl⟩
  go_wp2_with (first | fail)
  refine (C2.out).mono ?_
  rintro e w' ⟨rfl, rfl⟩
  go_wp2_with (first | fail)
  refine (C3.out).mono ?_
  rintro e w' ⟨rfl, rfl⟩
  go_wp2_with (first | fail)
  refine (alive13 _).mono ?_
  rintro e w1 ⟨rfl, hb⟩
  go_wp2
  go_ret
  exact Ret.of rfl hb
end Go.Proofs.Ytjhfiibfknhniaa
