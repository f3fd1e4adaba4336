/- The walk of the law FieldNone. -/
import Derived.Test.YtjhfiibfknhniaaFThru0
import Derived.Test.YtjhfiibfknhniaaFSame
set_option linter.unusedVariables false
set_option linter.unusedSimpArgs false
namespace Go.Proofs.Ytjhfiibfknhniaa
open Go.RowKit

theorem NoneAt.drewN {q : Option Addr} {w : World} (h : NoneAt q w) (n : Nat) : NoneAt q (w.drewN n) := h
theorem none_quiet {q : Option Addr} {w : World} (h : NoneAt q w) : Calls Try.prog 34 #[.pointer q] w fun e w' => e = .returned (.bool true) ∧ w' = w := (none_none h).mono fun _ _ ⟨a, b⟩ => ⟨a, b.symm⟩
theorem Same_none {q r : Option Addr} {w : World} (h : NoneAt q w) : Calls Try.prog 19 #[.pointer q, .pointer r] w fun e w' => e = .returned (.bool false) ∧ Below w.heap.size w w' := by
  go_enter Try.func19, Try.ntmps19
  go_wp2_with (first | fail)
  go_quiet ((go_at_call 34; exact Calls.quiet_of_same (none_quiet (h.drewN _))))
  go_wp2
  go_ret
  exact ⟨rfl, rfl, rfl, rfl, Nat.le_refl _, fun _ _ => rfl⟩
theorem Box_none {q : Option Addr} {w : World} (h : NoneAt q w) : Calls Try.prog 27 #[.pointer q] w fun e w' => e = .returned (.tuple #[.agg #[.int .i64 0, .int .i64 0, .int .i64 0, .int .i64 0], .bool false]) ∧ Below w.heap.size w w' :=
  Box_lives (lives_none h) (by simp)
theorem Pop_none {q : Option Addr} {w : World} (h : NoneAt q w) : Calls Try.prog 15 #[.pointer q] w fun e w' => e = .returned (.int .i64 0) ∧ Below w.heap.size w w' :=
  Pop_lives (lives_none h) (by simp)
theorem through_none (B : Nat) {w : World} (h : w.heap[B]? = some (.cells #[.pointer none] 22 (0, 0))) :
    Calls Try.prog 29 #[.func (.func 51) #[] #[.pointer (some ⟨B, 0, none⟩)], .slice none 0 0, .int .i64 (-1)] w fun e w' => e = .returned (.bool true) ∧ Below w.heap.size w w' :=
  through0 (enters_of Try.func51 (by kernel_rfl) rfl) (living_none B h (.inl rfl))

set_option maxRecDepth 20000 in
set_option maxHeartbeats 3000000 in
theorem FieldNone_walk (x y s : Int) (A : Option Addr) (n c : Nat) (l : List Int) (on : Bool) (w : World) (hr : Rd w A (l.map (.int .u8))) (hln : l.length = n) (hsz : n * 1 ≤ 140737488351232) (hbl : ∀ z ∈ l, 0 ≤ z ∧ z ≤ 255) :
    Calls Try.prog 7 #[.int .i64 x, .int .i64 y, .int .u8 s, .slice A n c, .bool on] w (Ret (.bool true) w) := by
  have hfe : ∀ (g : Nat) (lb : Array Value) (W : World), (binOp .eql 43 (.func (.func g) #[] lb) .nilFunc).run Try.prog W = .ok (.bool false) W := fun _ _ _ => by kernel_rfl
  have HLN := Lib.hid hln; clear hln
  have HBL := Lib.hid hbl; clear hbl
  have HR := Lib.hid hr; clear hr
  go_enter Try.func7, Try.ntmps7
  go_wp2_with (first | fail)
  have KZ := bk_alloc (bk_newn w (.cells #[.int .i64 0, .int .i64 0, .int .i64 0, .bool false, .nilIface] 57) w.heap.size rfl) (.cells #[.pointer none, .pointer (some ⟨w.heap.size, 0, none⟩)] 22)
  have KL := bk_newn (w.alloc (.cells #[.int .i64 0, .int .i64 0, .int .i64 0, .bool false, .nilIface] 57)) (.cells #[.pointer none, .pointer (some ⟨w.heap.size, 0, none⟩)] 22) (w.heap.size + 1) (by simp)
  have hBw : Below w.heap.size w ((w.alloc (.cells #[.int .i64 0, .int .i64 0, .int .i64 0, .bool false, .nilIface] 57)).alloc (.cells #[.pointer none, .pointer (some ⟨w.heap.size, 0, none⟩)] 22)) := (boxed _ _).alloc (by simp) _
  generalize ((w.alloc (.cells #[.int .i64 0, .int .i64 0, .int .i64 0, .bool false, .nilIface] 57)).alloc (.cells #[.pointer none, .pointer (some ⟨w.heap.size, 0, none⟩)] 22)) = W0 at *
  go_loopw [13] (fun i wr => ∃ k : Int, i = .int .i64 k ∧ 0 ≤ k ∧ k ≤ 2 ∧ wr.heap[w.heap.size]? = some (.cells #[.int .i64 0, .int .i64 0, .int .i64 0, .bool false, .nilIface] 57 (0, 0)) ∧ wr.heap[w.heap.size + 1]? = some (.cells #[.pointer none, .pointer (some ⟨w.heap.size, 0, none⟩)] 22 (0, 0)) ∧ Below w.heap.size w wr) (fun i _ => (2 - intOf i).toNat)
  case atStart => exact ⟨0, rfl, by omega, by omega, KZ, KL, hBw⟩
  clear KZ KL hBw
  obtain ⟨k, rfl, hk0, hk2, KZ, KL, hB⟩ := hrel
  have hcL := bk_cell KL
  have n0 : NoneAt none wr := .inl rfl
  have n1 : NoneAt (some ⟨w.heap.size, 0, none⟩) wr := .inr ⟨_, rfl, KZ⟩
  obtain rfl | rfl | rfl : k = 0 ∨ k = 1 ∨ k = 2 := by omega
  rotate_right
  · go_wp2
    go_ret
    exact Ret.of rfl hB
  · have hn := n0
    clear n0 n1
    go_wp2_with (first | (go_at_call 14; ((with_reducible refine (Get_none _ _ hn).mono ?_); rintro e w' ⟨rfl, rfl⟩)) | (go_at_call 12; ((with_reducible refine (Line_none _ hn).mono ?_); rintro e w' ⟨rfl, rfl⟩)))
    refine (Box_none hn).mono ?_
    rintro e w1 ⟨rfl, hb1⟩
    replace hn := hn.below hb1; replace KZ := bk_below KZ hb1; replace KL := bk_below KL hb1; replace hB := hB.trans (hb1.mono hB.size)
    clear hcL hb1
    have hn2 := hn.below (boxed w1 (.cells #[.int .i64 0, .int .i64 0, .int .i64 0, .int .i64 0] 60))
    have KX := bk_new w1 (.cells #[.int .i64 0, .int .i64 0, .int .i64 0, .int .i64 0] 60)
    have KC := bk_newn (w1.alloc (.cells #[.int .i64 0, .int .i64 0, .int .i64 0, .int .i64 0] 60)) (.cells #[.pointer none] 22) (w1.heap.size + 1) (by simp)
    have hbA : Below w1.heap.size w1 ((w1.alloc (.cells #[.int .i64 0, .int .i64 0, .int .i64 0, .int .i64 0] 60)).alloc (.cells #[.pointer none] 22)) := (boxed _ _).alloc (by simp) _
    have hr2 := Lib.hid (HR.out.below (hB.trans (hbA.mono hB.size)))
    go_wp2_with (first
      | (go_at_call 20; ((with_reducible refine (Cells_none hn2).mono ?_); rintro e w' ⟨rfl, rfl⟩))
      | (at_builtin; refine app_rd rfl _ _ 28 (by rfl) w.heap.size 5 (.int .u8 0) 1 1 Try.underlying28 (by kernel_rfl) rfl (by decide) (.slice none 0 0) 0 [] (by rfl) (World.ownsRow_nil _ _ _ _) A n c (l.map (.int .u8)) (by rfl) hr2.out (by simp [HLN.out]) (by simp [Value.oneCell']) (by unfold maxLen; omega) (by omega) (by have := hB.size; simp; omega) ?_; intro v1 w2 hown hb2 hg2))
    have hb2' := below_of_nil hg2
    rw [Nat.zero_add, List.nil_append] at hown
    obtain ⟨A1, c1, rfl⟩ := own_slice hown
    have hr3 := Lib.hid (Rd.of_own hown)
    have hr4 := Lib.hid (hr2.out.below hb2')
    have hB2 := hB.trans ((hbA.trans (hb2'.mono hbA.size)).mono hB.size)
    replace hn := (hn.below hbA).below hb2'
    replace KZ := bk_below (bk_below KZ hbA) hb2'; replace KL := bk_below (bk_below KL hbA) hb2'; replace KC := bk_below KC hb2'
    clear hn2 KX hr2 hown hb2 hg2 hB hbA hb2'
    go_wp2_with (first
      | (go_at_call 25; ((with_reducible refine (Set_none _ _ _ hn).mono ?_); rintro e w' ⟨rfl, rfl⟩))
      | (go_at_call 11; ((with_reducible refine (Lay_none _ _ hn).mono ?_); rintro e w' ⟨rfl, rfl⟩))
      | (go_at_call 26; ((with_reducible refine (Clear_none hn).mono ?_); rintro e w' ⟨rfl, rfl⟩))
      | (go_at_call 28; ((with_reducible refine (Pack_none _ hn).mono ?_); rintro e w' ⟨rfl, rfl⟩))
      | (go_at_call 13; ((with_reducible refine (same13_eq _ hr3.out hr4.out HLN.out HLN.out HBL.out).mono ?_); rintro e w' ⟨rfl, rfl⟩))
      | (go_at_call 22; ((with_reducible refine (W_none hn).mono ?_); rintro e w' ⟨rfl, rfl⟩))
      | (go_at_call 23; ((with_reducible refine (H_none hn).mono ?_); rintro e w' ⟨rfl, rfl⟩))
      | (go_at_call 24; ((with_reducible refine (States_none hn).mono ?_); rintro e w' ⟨rfl, rfl⟩))
      | (go_at_call 17; ((with_reducible refine (Packed_none hn).mono ?_); rintro e w' ⟨rfl, rfl⟩)))
    clear hr3 hr4
    refine (Pop_none hn).mono ?_
    rintro e w3 ⟨rfl, hb1⟩
    replace hn := hn.below hb1; replace KZ := bk_below KZ hb1; replace KL := bk_below KL hb1; replace KC := bk_below KC hb1; replace hB2 := hB2.trans (hb1.mono hB2.size); clear hb1
    go_wp2_with (first | (go_at_call 21; ((with_reducible refine (Clone_none hn).mono ?_); rintro e w' ⟨rfl, rfl⟩)))
    refine (Same_none hn).mono ?_
    rintro e w4 ⟨rfl, hb1⟩
    replace hn := hn.below hb1; replace KZ := bk_below KZ hb1; replace KL := bk_below KL hb1; replace KC := bk_below KC hb1; replace hB2 := hB2.trans (hb1.mono hB2.size); clear hb1
    go_wp2_with (first | fail)
    refine (Same_none hn).mono ?_
    rintro e w5 ⟨rfl, hb1⟩
    replace hn := hn.below hb1; replace KZ := bk_below KZ hb1; replace KL := bk_below KL hb1; replace KC := bk_below KC hb1; replace hB2 := hB2.trans (hb1.mono hB2.size); clear hb1
    go_wp2_with (first | fail)
    refine (through_none _ KC).mono ?_
    rintro e w6 ⟨rfl, hb1⟩
    replace hn := hn.below hb1; replace KZ := bk_below KZ hb1; replace KL := bk_below KL hb1; replace KC := bk_below KC hb1; replace hB2 := hB2.trans (hb1.mono hB2.size); clear hb1
    go_wp2
    go_roundw
    case rel => exact ⟨1, by go_num, by omega, by omega, KZ, KL, hB2⟩
    case measure => simp [intOf]
  · have hn := n1
    clear n0 n1
    go_wp2_with (first | (go_at_call 14; ((with_reducible refine (Get_none _ _ hn).mono ?_); rintro e w' ⟨rfl, rfl⟩)) | (go_at_call 12; ((with_reducible refine (Line_none _ hn).mono ?_); rintro e w' ⟨rfl, rfl⟩)))
    refine (Box_none hn).mono ?_
    rintro e w1 ⟨rfl, hb1⟩
    replace hn := hn.below hb1; replace KZ := bk_below KZ hb1; replace KL := bk_below KL hb1; replace hB := hB.trans (hb1.mono hB.size)
    clear hcL hb1
    have hn2 := hn.below (boxed w1 (.cells #[.int .i64 0, .int .i64 0, .int .i64 0, .int .i64 0] 60))
    have KX := bk_new w1 (.cells #[.int .i64 0, .int .i64 0, .int .i64 0, .int .i64 0] 60)
    have KC := bk_newn (w1.alloc (.cells #[.int .i64 0, .int .i64 0, .int .i64 0, .int .i64 0] 60)) (.cells #[.pointer none] 22) (w1.heap.size + 1) (by simp)
    have hbA : Below w1.heap.size w1 ((w1.alloc (.cells #[.int .i64 0, .int .i64 0, .int .i64 0, .int .i64 0] 60)).alloc (.cells #[.pointer none] 22)) := (boxed _ _).alloc (by simp) _
    have hr2 := Lib.hid (HR.out.below (hB.trans (hbA.mono hB.size)))
    go_wp2_with (first
      | (go_at_call 20; ((with_reducible refine (Cells_none hn2).mono ?_); rintro e w' ⟨rfl, rfl⟩))
      | (at_builtin; refine app_rd rfl _ _ 28 (by rfl) w.heap.size 5 (.int .u8 0) 1 1 Try.underlying28 (by kernel_rfl) rfl (by decide) (.slice none 0 0) 0 [] (by rfl) (World.ownsRow_nil _ _ _ _) A n c (l.map (.int .u8)) (by rfl) hr2.out (by simp [HLN.out]) (by simp [Value.oneCell']) (by unfold maxLen; omega) (by omega) (by have := hB.size; simp; omega) ?_; intro v1 w2 hown hb2 hg2))
    have hb2' := below_of_nil hg2
    rw [Nat.zero_add, List.nil_append] at hown
    obtain ⟨A1, c1, rfl⟩ := own_slice hown
    have hr3 := Lib.hid (Rd.of_own hown)
    have hr4 := Lib.hid (hr2.out.below hb2')
    have hB2 := hB.trans ((hbA.trans (hb2'.mono hbA.size)).mono hB.size)
    replace hn := (hn.below hbA).below hb2'
    replace KZ := bk_below (bk_below KZ hbA) hb2'; replace KL := bk_below (bk_below KL hbA) hb2'; replace KC := bk_below KC hb2'
    clear hn2 KX hr2 hown hb2 hg2 hB hbA hb2'
    go_wp2_with (first
      | (go_at_call 25; ((with_reducible refine (Set_none _ _ _ hn).mono ?_); rintro e w' ⟨rfl, rfl⟩))
      | (go_at_call 11; ((with_reducible refine (Lay_none _ _ hn).mono ?_); rintro e w' ⟨rfl, rfl⟩))
      | (go_at_call 26; ((with_reducible refine (Clear_none hn).mono ?_); rintro e w' ⟨rfl, rfl⟩))
      | (go_at_call 28; ((with_reducible refine (Pack_none _ hn).mono ?_); rintro e w' ⟨rfl, rfl⟩))
      | (go_at_call 13; ((with_reducible refine (same13_eq _ hr3.out hr4.out HLN.out HLN.out HBL.out).mono ?_); rintro e w' ⟨rfl, rfl⟩))
      | (go_at_call 22; ((with_reducible refine (W_none hn).mono ?_); rintro e w' ⟨rfl, rfl⟩))
      | (go_at_call 23; ((with_reducible refine (H_none hn).mono ?_); rintro e w' ⟨rfl, rfl⟩))
      | (go_at_call 24; ((with_reducible refine (States_none hn).mono ?_); rintro e w' ⟨rfl, rfl⟩))
      | (go_at_call 17; ((with_reducible refine (Packed_none hn).mono ?_); rintro e w' ⟨rfl, rfl⟩)))
    clear hr3 hr4
    refine (Pop_none hn).mono ?_
    rintro e w3 ⟨rfl, hb1⟩
    replace hn := hn.below hb1; replace KZ := bk_below KZ hb1; replace KL := bk_below KL hb1; replace KC := bk_below KC hb1; replace hB2 := hB2.trans (hb1.mono hB2.size); clear hb1
    go_wp2_with (first | (go_at_call 21; ((with_reducible refine (Clone_none hn).mono ?_); rintro e w' ⟨rfl, rfl⟩)))
    refine (Same_none hn).mono ?_
    rintro e w4 ⟨rfl, hb1⟩
    replace hn := hn.below hb1; replace KZ := bk_below KZ hb1; replace KL := bk_below KL hb1; replace KC := bk_below KC hb1; replace hB2 := hB2.trans (hb1.mono hB2.size); clear hb1
    go_wp2_with (first | fail)
    refine (Same_none hn).mono ?_
    rintro e w5 ⟨rfl, hb1⟩
    replace hn := hn.below hb1; replace KZ := bk_below KZ hb1; replace KL := bk_below KL hb1; replace KC := bk_below KC hb1; replace hB2 := hB2.trans (hb1.mono hB2.size); clear hb1
    go_wp2_with (first | fail)
    refine (through_none _ KC).mono ?_
    rintro e w6 ⟨rfl, hb1⟩
    replace hn := hn.below hb1; replace KZ := bk_below KZ hb1; replace KL := bk_below KL hb1; replace KC := bk_below KC hb1; replace hB2 := hB2.trans (hb1.mono hB2.size); clear hb1
    go_wp2
    go_roundw
    case rel => exact ⟨2, by go_num, by omega, by omega, KZ, KL, hB2⟩
    case measure => simp [intOf]
end Go.Proofs.Ytjhfiibfknhniaa
