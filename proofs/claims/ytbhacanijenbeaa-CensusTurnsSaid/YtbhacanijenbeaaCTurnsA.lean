/- The walk of census.Turns. -/
import Derived.Test.YtbhacanijenbeaaCTurnsM
import Derived.Test.YtbhacanijenbeaaB0
import Derived.Laws.Cover2
import Derived.Laws.Cover3
import Derived.Laws.ComplexArith
import Derived.LoopN
set_option linter.unusedVariables false
set_option linter.unusedSimpArgs false
namespace Go.Proofs.Ytbhacanijenbeaa
open Go.RowKit Go.Viv

theorem run_store_complex (P : Program) (w : World) (a : Addr) (m : Mode) (k : FloatKind) (x y : Nat) : (store a (.complex k x y) m).run P w = stored P w a (.complex k x y) m := run_store P w a _ m rfl
theorem run_store_float (P : Program) (w : World) (a : Addr) (m : Mode) (k : FloatKind) (x : Nat) : (store a (.float k x) m).run P w = stored P w a (.float k x) m := run_store P w a _ m rfl
attribute [local go_sem] run_store_complex run_store_float
theorem fl_zero : fl 0 = 0 := by decide
theorem conv_fl (n : Int) (w : World) : (convert 3 32 (.int .i64 n)).run Try.prog w = .ok (.float .f64 (fl n)) w := run_convert_int_float w _ _ _ _ _ (by rw [Try.underlying3]; rfl) Try.underlying32

/-- numbers lie in memory from an address on -/
def IntsAt (w : World) (b o : Nat) (l : List Int) : Prop := ∀ (j : Nat) (x : Int), l[j]? = some x → w.cell? ⟨b, o + j, none⟩ = some (.int .i64 x)
theorem IntsAt.below {w w1 : World} {b o : Nat} {l : List Int} (h : IntsAt w b o l) (hb : Below w.heap.size w w1) : IntsAt w1 b o l := fun j x hx => cell_later hb (h j x hx)

abbrev parts8 (l : List Int) (j : Nat) : Array Value := #[.int .i64 (sR l 0 j), .int .i64 (sI l 0 j), .int .i64 (sR l 1 j), .int .i64 (sI l 1 j), .int .i64 (sR l 2 j), .int .i64 (sI l 2 j), .int .i64 (sR l 3 j), .int .i64 (sI l 3 j)]
abbrev turnsV (l : List Int) : Value := .agg #[.complex .f64 (fl (turnsR l 0)) (fl (turnsI l 0)), .complex .f64 (fl (turnsR l 1)) (fl (turnsI l 1)), .complex .f64 (fl (turnsR l 2)) (fl (turnsI l 2)), .complex .f64 (fl (turnsR l 3)) (fl (turnsI l 3))]
abbrev z4 : Array Value := #[.complex .f64 0 0, .complex .f64 0 0, .complex .f64 0 0, .complex .f64 0 0]
theorem turnsV_err {l : List Int} (h : turnsE l ≠ 0) : turnsV l = .agg z4 := by
  have h1 : ∀ k, turnsR l k = 0 := fun k => if_neg h
  have h2 : ∀ k, turnsI l k = 0 := fun k => if_neg h
  unfold turnsV; rw [h1, h1, h1, h1, h2, h2, h2, h2, fl_zero]
theorem turnsV_ok {l : List Int} {n : Nat} (hn : l.length = n) (h : turnsE l = 0) : turnsV l = .agg #[.complex .f64 (fl (sR l 0 n)) (fl (sI l 0 n)), .complex .f64 (fl (sR l 1 n)) (fl (sI l 1 n)), .complex .f64 (fl (sR l 2 n)) (fl (sI l 2 n)), .complex .f64 (fl (sR l 3 n)) (fl (sI l 3 n))] := by
  subst hn
  have h1 : ∀ k, turnsR l k = sR l k l.length := fun k => if_pos h
  have h2 : ∀ k, turnsI l k = sI l k l.length := fun k => if_pos h
  unfold turnsV; rw [h1, h1, h1, h1, h2, h2, h2, h2]
theorem parts8_zero (l : List Int) : parts8 l 0 = #[.int .i64 0, .int .i64 0, .int .i64 0, .int .i64 0, .int .i64 0, .int .i64 0, .int .i64 0, .int .i64 0] := rfl

theorem parts8_0 {l : List Int} {j : Nat} {x : Int} (hx : l[j]? = some x) (hr : j % 4 = 0) : parts8 l (j + 1) = #[.int .i64 (sR l 0 j + x), .int .i64 (sI l 0 j), .int .i64 (sR l 1 j + x), .int .i64 (sI l 1 j), .int .i64 (sR l 2 j + x), .int .i64 (sI l 2 j), .int .i64 (sR l 3 j + x), .int .i64 (sI l 3 j)] := by
  unfold parts8
  have q0 : ((j : Int) * 0) % 4 = 0 := by omega
  rw [(step_r hx 0).1, (step_r hx 0).2, q0]
  have q1 : ((j : Int) * 1) % 4 = 0 := by omega
  rw [(step_r hx 1).1, (step_r hx 1).2, q1]
  have q2 : ((j : Int) * 2) % 4 = 0 := by omega
  rw [(step_r hx 2).1, (step_r hx 2).2, q2]
  have q3 : ((j : Int) * 3) % 4 = 0 := by omega
  rw [(step_r hx 3).1, (step_r hx 3).2, q3]
  simp [crI, ciI, Int.sub_eq_add_neg]

theorem parts8_1 {l : List Int} {j : Nat} {x : Int} (hx : l[j]? = some x) (hr : j % 4 = 1) : parts8 l (j + 1) = #[.int .i64 (sR l 0 j + x), .int .i64 (sI l 0 j), .int .i64 (sR l 1 j), .int .i64 (sI l 1 j + x), .int .i64 (sR l 2 j - x), .int .i64 (sI l 2 j), .int .i64 (sR l 3 j), .int .i64 (sI l 3 j - x)] := by
  unfold parts8
  have q0 : ((j : Int) * 0) % 4 = 0 := by omega
  rw [(step_r hx 0).1, (step_r hx 0).2, q0]
  have q1 : ((j : Int) * 1) % 4 = 1 := by omega
  rw [(step_r hx 1).1, (step_r hx 1).2, q1]
  have q2 : ((j : Int) * 2) % 4 = 2 := by omega
  rw [(step_r hx 2).1, (step_r hx 2).2, q2]
  have q3 : ((j : Int) * 3) % 4 = 3 := by omega
  rw [(step_r hx 3).1, (step_r hx 3).2, q3]
  simp [crI, ciI, Int.sub_eq_add_neg]

theorem parts8_2 {l : List Int} {j : Nat} {x : Int} (hx : l[j]? = some x) (hr : j % 4 = 2) : parts8 l (j + 1) = #[.int .i64 (sR l 0 j + x), .int .i64 (sI l 0 j), .int .i64 (sR l 1 j - x), .int .i64 (sI l 1 j), .int .i64 (sR l 2 j + x), .int .i64 (sI l 2 j), .int .i64 (sR l 3 j - x), .int .i64 (sI l 3 j)] := by
  unfold parts8
  have q0 : ((j : Int) * 0) % 4 = 0 := by omega
  rw [(step_r hx 0).1, (step_r hx 0).2, q0]
  have q1 : ((j : Int) * 1) % 4 = 2 := by omega
  rw [(step_r hx 1).1, (step_r hx 1).2, q1]
  have q2 : ((j : Int) * 2) % 4 = 0 := by omega
  rw [(step_r hx 2).1, (step_r hx 2).2, q2]
  have q3 : ((j : Int) * 3) % 4 = 2 := by omega
  rw [(step_r hx 3).1, (step_r hx 3).2, q3]
  simp [crI, ciI, Int.sub_eq_add_neg]

theorem parts8_3 {l : List Int} {j : Nat} {x : Int} (hx : l[j]? = some x) (hr : j % 4 = 3) : parts8 l (j + 1) = #[.int .i64 (sR l 0 j + x), .int .i64 (sI l 0 j), .int .i64 (sR l 1 j), .int .i64 (sI l 1 j - x), .int .i64 (sR l 2 j - x), .int .i64 (sI l 2 j), .int .i64 (sR l 3 j), .int .i64 (sI l 3 j + x)] := by
  unfold parts8
  have q0 : ((j : Int) * 0) % 4 = 0 := by omega
  rw [(step_r hx 0).1, (step_r hx 0).2, q0]
  have q1 : ((j : Int) * 1) % 4 = 3 := by omega
  rw [(step_r hx 1).1, (step_r hx 1).2, q1]
  have q2 : ((j : Int) * 2) % 4 = 2 := by omega
  rw [(step_r hx 2).1, (step_r hx 2).2, q2]
  have q3 : ((j : Int) * 3) % 4 = 1 := by omega
  rw [(step_r hx 3).1, (step_r hx 3).2, q3]
  simp [crI, ciI, Int.sub_eq_add_neg]

set_option maxHeartbeats 1000000 in
theorem cTurns_many (ad : Option Addr) (n c : Nat) (l : List Int) (w : World) (hn : l.length = n) (h : 4096 < n) :
    Calls Try.prog 9 #[.slice ad n c] w (Ret (.tuple #[turnsV l, .int .i64 (turnsE l)]) w) := by
  have e : turnsE l = 6 := if_pos (by omega)
  rw [turnsV_err (by rw [e]; decide), e]
  clear e
  have KR : (w.alloc (.cells #[.complex .f64 0 0, .complex .f64 0 0, .complex .f64 0 0, .complex .f64 0 0] 28)).heap[w.heap.size]? = some (.cells #[.complex .f64 0 0, .complex .f64 0 0, .complex .f64 0 0, .complex .f64 0 0] 28 (0, 0)) := (bk_new _ _)
  go_enter Try.func9, Try.ntmps9
  go_wp2
  refine end_ct (w.heap.size) 28 rfl rfl rfl Try.underlying28 rfl ?_
  apply Exists.intro
  refine ⟨(by repeat (with_reducible (first | exact KR | apply bk_set | refine bk_drew ?_ | refine bk_drewN ?_ _ | refine bk_alloc ?_ _ | refine bk_far ?_ (by simp; try omega) _))), by kernel_rfl, ?_⟩
  exact Ret.of rfl (by repeat (first | exact Below.refl _ _ | exact boxed _ _ | refine Below.drew ?_ | refine Below.setCell ?_ (by simp) _ | refine Below.alloc ?_ (by simp) _))

set_option maxHeartbeats 8000000 in
theorem cTurns_few (b off n c : Nat) (l : List Int) (w : World) (hn : l.length = n) (h : n ≤ 4096) (hl : IntsAt w b off l) :
    Calls Try.prog 9 #[.slice (some ⟨b, off, none⟩) n c] w (Ret (.tuple #[turnsV l, .int .i64 (turnsE l)]) w) := by
  have e1 : l.all nearI = false → Hid ((.tuple #[turnsV l, .int .i64 (turnsE l)] : Value) = .tuple #[.agg z4, .int .i64 5]) := by
    intro hf
    have e : turnsE l = 5 := by unfold turnsE; rw [if_neg (by omega), if_neg (by simp [hf])]
    show _ = _
    rw [turnsV_err (by rw [e]; decide), e]
  have e2 : (l.take n).all nearI = true → Hid ((.tuple #[turnsV l, .int .i64 (turnsE l)] : Value) = .tuple #[.agg #[.complex .f64 (fl (sR l 0 n)) (fl (sI l 0 n)), .complex .f64 (fl (sR l 1 n)) (fl (sI l 1 n)), .complex .f64 (fl (sR l 2 n)) (fl (sI l 2 n)), .complex .f64 (fl (sR l 3 n)) (fl (sI l 3 n))], .int .i64 0]) := by
    intro hf
    rw [← hn, List.take_length] at hf
    have e : turnsE l = 0 := by unfold turnsE; rw [if_neg (by omega), if_pos hf]
    show _ = _
    rw [turnsV_ok hn e, e]
  obtain ⟨X, hX⟩ : ∃ X, (.tuple #[turnsV l, .int .i64 (turnsE l)] : Value) = X := ⟨_, rfl⟩
  rw [hX] at e1 e2 ⊢
  clear hX
  have HN := Lib.hid hn; clear hn
  have HL := Lib.hid hl; clear hl
  have KR : ((w.alloc (.cells #[.complex .f64 0 0, .complex .f64 0 0, .complex .f64 0 0, .complex .f64 0 0] 28)).alloc (.cells #[.int .i64 0, .int .i64 0, .int .i64 0, .int .i64 0, .int .i64 0, .int .i64 0, .int .i64 0, .int .i64 0] 70)).heap[w.heap.size]? = some (.cells #[.complex .f64 0 0, .complex .f64 0 0, .complex .f64 0 0, .complex .f64 0 0] 28 (0, 0)) := (bk_alloc (bk_new _ _) _)
  have KP : ((w.alloc (.cells #[.complex .f64 0 0, .complex .f64 0 0, .complex .f64 0 0, .complex .f64 0 0] 28)).alloc (.cells #[.int .i64 0, .int .i64 0, .int .i64 0, .int .i64 0, .int .i64 0, .int .i64 0, .int .i64 0, .int .i64 0] 70)).heap[w.heap.size + 1]? = some (.cells #[.int .i64 0, .int .i64 0, .int .i64 0, .int .i64 0, .int .i64 0, .int .i64 0, .int .i64 0, .int .i64 0] 70 (0, 0)) := (by have := bk_new (w.alloc (.cells #[.complex .f64 0 0, .complex .f64 0 0, .complex .f64 0 0, .complex .f64 0 0] 28)) (.cells #[.int .i64 0, .int .i64 0, .int .i64 0, .int .i64 0, .int .i64 0, .int .i64 0, .int .i64 0, .int .i64 0] 70); simpa only [World.size_alloc] using this)
  have hBw : Below w.heap.size w ((w.alloc (.cells #[.complex .f64 0 0, .complex .f64 0 0, .complex .f64 0 0, .complex .f64 0 0] 28)).alloc (.cells #[.int .i64 0, .int .i64 0, .int .i64 0, .int .i64 0, .int .i64 0, .int .i64 0, .int .i64 0, .int .i64 0] 70)) := (boxed _ _).alloc (by simp) _
  go_enter Try.func9, Try.ntmps9
  go_wp2_with (first | fail)
  generalize hW0 : ((w.alloc (.cells #[.complex .f64 0 0, .complex .f64 0 0, .complex .f64 0 0, .complex .f64 0 0] 28)).alloc (.cells #[.int .i64 0, .int .i64 0, .int .i64 0, .int .i64 0, .int .i64 0, .int .i64 0, .int .i64 0, .int .i64 0] 70)) = W0 at *
  clear hW0
  have hB := same W0
  have KRS := KR
  go_loopw [17] (fun i wr => ∃ j : Nat, i = .int .i64 j ∧ j ≤ n ∧ Hid ((l.take j).all nearI = true) ∧ wr.heap[w.heap.size]? = some (.cells #[.complex .f64 0 0, .complex .f64 0 0, .complex .f64 0 0, .complex .f64 0 0] 28 (0, 0)) ∧ wr.heap[w.heap.size + 1]? = some (.cells (parts8 l j) 70 (0, 0)) ∧ Below w.heap.size w wr) (fun i _ => n - (intOf i).toNat)
  case atStart => exact ⟨0, rfl, Nat.zero_le _, by show _ = _; simp, KR, KP, hBw⟩
  case round =>
    obtain ⟨j, rfl, hj, HA, KR, KP, hB⟩ := hrel

    by_cases hlt : j < n
    · obtain ⟨x, hx⟩ : ∃ x, l[j]? = some x := ⟨_, List.getElem?_eq_getElem (by rw [HN.out]; exact hlt)⟩
      have hcx : wr.cell? ⟨b, off + j, none⟩ = some (.int .i64 x) := cell_later hB (HL.out j _ hx)
      have hcR := bk_cell KR; have hfR := bk_free KR
      have Hx := Lib.hid hx; clear hx
      cases hnr : nearI x
      · have HE := e1 (allI_false Hx.out hnr)
        have hxf : x < -1099511627776 ∨ 1099511627776 < x := by unfold nearI at hnr; simp at hnr; omega
        clear hnr e1 e2 HA KP
        rcases hxf with hxf | hxf
        all_goals
          go_wp2
          refine end_ct (w.heap.size) 28 rfl rfl rfl Try.underlying28 rfl ?_
          apply Exists.intro
          refine ⟨(by repeat (with_reducible (first | exact KR | apply bk_set | refine bk_drew ?_ | refine bk_drewN ?_ _ | refine bk_alloc ?_ _ | refine bk_far ?_ (by simp; try omega) _))), by kernel_rfl, ?_⟩
          exact Ret.of (HE.out ▸ rfl) (by repeat (with_reducible (first | exact hB | refine Below.setCell ?_ (by (try simp) <;> omega) _ | refine Below.drew ?_)))
      · have hall : Hid ((l.take (j + 1)).all nearI = true) := allI_snoc HA.out Hx.out hnr
        have hxb : -1099511627776 ≤ x ∧ x ≤ 1099511627776 := by unfold nearI at hnr; simpa using hnr
        obtain ⟨hx1, hx2⟩ := hxb
        clear hnr e1 e2
        obtain ⟨A0, hA0⟩ : ∃ A, sR l 0 j = A := ⟨_, rfl⟩
        have bA0 := sR_b (l := l) 0 (Nat.le_refl j) HA.out
        rw [hA0] at bA0
        obtain ⟨A1, hA1⟩ : ∃ A, sI l 0 j = A := ⟨_, rfl⟩
        have bA1 := sI_b (l := l) 0 (Nat.le_refl j) HA.out
        rw [hA1] at bA1
        obtain ⟨A2, hA2⟩ : ∃ A, sR l 1 j = A := ⟨_, rfl⟩
        have bA2 := sR_b (l := l) 1 (Nat.le_refl j) HA.out
        rw [hA2] at bA2
        obtain ⟨A3, hA3⟩ : ∃ A, sI l 1 j = A := ⟨_, rfl⟩
        have bA3 := sI_b (l := l) 1 (Nat.le_refl j) HA.out
        rw [hA3] at bA3
        obtain ⟨A4, hA4⟩ : ∃ A, sR l 2 j = A := ⟨_, rfl⟩
        have bA4 := sR_b (l := l) 2 (Nat.le_refl j) HA.out
        rw [hA4] at bA4
        obtain ⟨A5, hA5⟩ : ∃ A, sI l 2 j = A := ⟨_, rfl⟩
        have bA5 := sI_b (l := l) 2 (Nat.le_refl j) HA.out
        rw [hA5] at bA5
        obtain ⟨A6, hA6⟩ : ∃ A, sR l 3 j = A := ⟨_, rfl⟩
        have bA6 := sR_b (l := l) 3 (Nat.le_refl j) HA.out
        rw [hA6] at bA6
        obtain ⟨A7, hA7⟩ : ∃ A, sI l 3 j = A := ⟨_, rfl⟩
        have bA7 := sI_b (l := l) 3 (Nat.le_refl j) HA.out
        rw [hA7] at bA7
        have hr : j % 4 = 0 ∨ j % 4 = 1 ∨ j % 4 = 2 ∨ j % 4 = 3 := by omega
        have hjb : (j : Int) * 1099511627776 ≤ 4096 * 1099511627776 := by omega
        rcases hr with hr | hr | hr | hr
        · have PE := parts8_0 Hx.out hr
          have q1 : ((j : Int) * 1).tmod 4 = 0 := by rw [Int.tmod_eq_emod_of_nonneg (by omega)]; omega
          have q2 : ((j : Int) * 2).tmod 4 = 0 := by rw [Int.tmod_eq_emod_of_nonneg (by omega)]; omega
          have q3 : ((j : Int) * 3).tmod 4 = 0 := by rw [Int.tmod_eq_emod_of_nonneg (by omega)]; omega
          have q1' : ((j : Int)).tmod 4 = 0 := by rw [Int.tmod_eq_emod_of_nonneg (by omega)]; omega
          unfold parts8 at KP
          rw [hA0, hA1, hA2, hA3, hA4, hA5, hA6, hA7] at KP PE
          have PE := Lib.hid PE
          clear hr
          have hcP := bk_cell KP; have hfP := bk_free KP
          clear HN hA0 hA1 hA2 hA3 hA4 hA5 hA6 hA7
          go_wp2_with (first | fail)
          refine wp_loop_rounds 5 ?_
          rw [rounds_succ]; go_wp2; go_region; go_wp2
          rw [rounds_succ]; go_wp2; go_region; go_wp2
          rw [rounds_succ]; go_wp2; go_region; go_wp2
          rw [rounds_succ]; go_wp2; go_region; go_wp2
          rw [rounds_succ]; go_wp2
          go_roundw
          case rel => exact ⟨j + 1, by go_num, by omega, hall, (by repeat (with_reducible (first | exact KR | apply bk_set | refine bk_drew ?_ | refine bk_drewN ?_ _ | refine bk_alloc ?_ _ | refine bk_far ?_ (by simp; try omega) _))), by rw [PE.out]; refine bk_eq (by repeat (with_reducible (first | exact KP | apply bk_set | refine bk_drew ?_ | refine bk_drewN ?_ _ | refine bk_alloc ?_ _ | refine bk_far ?_ (by simp; try omega) _))) ?_; (simp <;> (try refine ⟨?_, ?_, ?_, ?_⟩) <;> (try (unfold wrap64; omega))), (by repeat (with_reducible (first | exact hB | refine Below.setCell ?_ (by (try simp) <;> omega) _ | refine Below.drew ?_)))⟩
          case measure => simp [intOf]; omega
        · have PE := parts8_1 Hx.out hr
          have q1 : ((j : Int) * 1).tmod 4 = 1 := by rw [Int.tmod_eq_emod_of_nonneg (by omega)]; omega
          have q2 : ((j : Int) * 2).tmod 4 = 2 := by rw [Int.tmod_eq_emod_of_nonneg (by omega)]; omega
          have q3 : ((j : Int) * 3).tmod 4 = 3 := by rw [Int.tmod_eq_emod_of_nonneg (by omega)]; omega
          have q1' : ((j : Int)).tmod 4 = 1 := by rw [Int.tmod_eq_emod_of_nonneg (by omega)]; omega
          unfold parts8 at KP
          rw [hA0, hA1, hA2, hA3, hA4, hA5, hA6, hA7] at KP PE
          have PE := Lib.hid PE
          clear hr
          have hcP := bk_cell KP; have hfP := bk_free KP
          clear HN hA0 hA1 hA2 hA3 hA4 hA5 hA6 hA7
          go_wp2_with (first | fail)
          refine wp_loop_rounds 5 ?_
          rw [rounds_succ]; go_wp2; go_region; go_wp2
          rw [rounds_succ]; go_wp2; go_region; go_wp2
          rw [rounds_succ]; go_wp2; go_region; go_wp2
          rw [rounds_succ]; go_wp2; go_region; go_wp2
          rw [rounds_succ]; go_wp2
          go_roundw
          case rel => exact ⟨j + 1, by go_num, by omega, hall, (by repeat (with_reducible (first | exact KR | apply bk_set | refine bk_drew ?_ | refine bk_drewN ?_ _ | refine bk_alloc ?_ _ | refine bk_far ?_ (by simp; try omega) _))), by rw [PE.out]; refine bk_eq (by repeat (with_reducible (first | exact KP | apply bk_set | refine bk_drew ?_ | refine bk_drewN ?_ _ | refine bk_alloc ?_ _ | refine bk_far ?_ (by simp; try omega) _))) ?_; (simp <;> (try refine ⟨?_, ?_, ?_, ?_⟩) <;> (try (unfold wrap64; omega))), (by repeat (with_reducible (first | exact hB | refine Below.setCell ?_ (by (try simp) <;> omega) _ | refine Below.drew ?_)))⟩
          case measure => simp [intOf]; omega
        · have PE := parts8_2 Hx.out hr
          have q1 : ((j : Int) * 1).tmod 4 = 2 := by rw [Int.tmod_eq_emod_of_nonneg (by omega)]; omega
          have q2 : ((j : Int) * 2).tmod 4 = 0 := by rw [Int.tmod_eq_emod_of_nonneg (by omega)]; omega
          have q3 : ((j : Int) * 3).tmod 4 = 2 := by rw [Int.tmod_eq_emod_of_nonneg (by omega)]; omega
          have q1' : ((j : Int)).tmod 4 = 2 := by rw [Int.tmod_eq_emod_of_nonneg (by omega)]; omega
          unfold parts8 at KP
          rw [hA0, hA1, hA2, hA3, hA4, hA5, hA6, hA7] at KP PE
          have PE := Lib.hid PE
          clear hr
          have hcP := bk_cell KP; have hfP := bk_free KP
          clear HN hA0 hA1 hA2 hA3 hA4 hA5 hA6 hA7
          go_wp2_with (first | fail)
          refine wp_loop_rounds 5 ?_
          rw [rounds_succ]; go_wp2; go_region; go_wp2
          rw [rounds_succ]; go_wp2; go_region; go_wp2
          rw [rounds_succ]; go_wp2; go_region; go_wp2
          rw [rounds_succ]; go_wp2; go_region; go_wp2
          rw [rounds_succ]; go_wp2
          go_roundw
          case rel => exact ⟨j + 1, by go_num, by omega, hall, (by repeat (with_reducible (first | exact KR | apply bk_set | refine bk_drew ?_ | refine bk_drewN ?_ _ | refine bk_alloc ?_ _ | refine bk_far ?_ (by simp; try omega) _))), by rw [PE.out]; refine bk_eq (by repeat (with_reducible (first | exact KP | apply bk_set | refine bk_drew ?_ | refine bk_drewN ?_ _ | refine bk_alloc ?_ _ | refine bk_far ?_ (by simp; try omega) _))) ?_; (simp <;> (try refine ⟨?_, ?_, ?_, ?_⟩) <;> (try (unfold wrap64; omega))), (by repeat (with_reducible (first | exact hB | refine Below.setCell ?_ (by (try simp) <;> omega) _ | refine Below.drew ?_)))⟩
          case measure => simp [intOf]; omega
        · have PE := parts8_3 Hx.out hr
          have q1 : ((j : Int) * 1).tmod 4 = 3 := by rw [Int.tmod_eq_emod_of_nonneg (by omega)]; omega
          have q2 : ((j : Int) * 2).tmod 4 = 2 := by rw [Int.tmod_eq_emod_of_nonneg (by omega)]; omega
          have q3 : ((j : Int) * 3).tmod 4 = 1 := by rw [Int.tmod_eq_emod_of_nonneg (by omega)]; omega
          have q1' : ((j : Int)).tmod 4 = 3 := by rw [Int.tmod_eq_emod_of_nonneg (by omega)]; omega
          unfold parts8 at KP
          rw [hA0, hA1, hA2, hA3, hA4, hA5, hA6, hA7] at KP PE
          have PE := Lib.hid PE
          clear hr
          have hcP := bk_cell KP; have hfP := bk_free KP
          clear HN hA0 hA1 hA2 hA3 hA4 hA5 hA6 hA7
          go_wp2_with (first | fail)
          refine wp_loop_rounds 5 ?_
          rw [rounds_succ]; go_wp2; go_region; go_wp2
          rw [rounds_succ]; go_wp2; go_region; go_wp2
          rw [rounds_succ]; go_wp2; go_region; go_wp2
          rw [rounds_succ]; go_wp2; go_region; go_wp2
          rw [rounds_succ]; go_wp2
          go_roundw
          case rel => exact ⟨j + 1, by go_num, by omega, hall, (by repeat (with_reducible (first | exact KR | apply bk_set | refine bk_drew ?_ | refine bk_drewN ?_ _ | refine bk_alloc ?_ _ | refine bk_far ?_ (by simp; try omega) _))), by rw [PE.out]; refine bk_eq (by repeat (with_reducible (first | exact KP | apply bk_set | refine bk_drew ?_ | refine bk_drewN ?_ _ | refine bk_alloc ?_ _ | refine bk_far ?_ (by simp; try omega) _))) ?_; (simp <;> (try refine ⟨?_, ?_, ?_, ?_⟩) <;> (try (unfold wrap64; omega))), (by repeat (with_reducible (first | exact hB | refine Below.setCell ?_ (by (try simp) <;> omega) _ | refine Below.drew ?_)))⟩
          case measure => simp [intOf]; omega
    · obtain rfl : j = n := by omega
      have HE := e2 HA.out
      unfold parts8 at KP
      obtain ⟨A0, hA0⟩ : ∃ A, sR l 0 j = A := ⟨_, rfl⟩
      obtain ⟨A1, hA1⟩ : ∃ A, sI l 0 j = A := ⟨_, rfl⟩
      obtain ⟨A2, hA2⟩ : ∃ A, sR l 1 j = A := ⟨_, rfl⟩
      obtain ⟨A3, hA3⟩ : ∃ A, sI l 1 j = A := ⟨_, rfl⟩
      obtain ⟨A4, hA4⟩ : ∃ A, sR l 2 j = A := ⟨_, rfl⟩
      obtain ⟨A5, hA5⟩ : ∃ A, sI l 2 j = A := ⟨_, rfl⟩
      obtain ⟨A6, hA6⟩ : ∃ A, sR l 3 j = A := ⟨_, rfl⟩
      obtain ⟨A7, hA7⟩ : ∃ A, sI l 3 j = A := ⟨_, rfl⟩
      rw [hA0, hA1, hA2, hA3, hA4, hA5, hA6, hA7] at KP HE
      clear hA0 hA1 hA2 hA3 hA4 hA5 hA6 hA7 HN e1 e2 HA
      have hcR := bk_cell KR; have hfR := bk_free KR; have hlR := bk_lt KR
      have hcP := bk_cell KP; have hlP := bk_lt KP
      have hc5 : ∀ (o0 o1 o2 o3 o4 : Obj) (i : Nat), (((((wr.alloc o0).alloc o1).alloc o2).alloc o3).alloc o4).cell? ⟨w.heap.size, i, none⟩ = wr.cell? ⟨w.heap.size, i, none⟩ := fun o0 o1 o2 o3 o4 i => Below.cell (w := wr) (B := wr.heap.size) (by repeat (with_reducible (first | exact same _ | refine Below.alloc ?_ (by (try simp) <;> omega) _))) hlR
      have hf5 : ∀ (o0 o1 o2 o3 o4 : Obj) (i : Nat), (((((wr.alloc o0).alloc o1).alloc o2).alloc o3).alloc o4).frozen? ⟨w.heap.size, i, none⟩ = wr.frozen? ⟨w.heap.size, i, none⟩ := fun o0 o1 o2 o3 o4 i => Below.frozen (w := wr) (B := wr.heap.size) (by repeat (with_reducible (first | exact same _ | refine Below.alloc ?_ (by (try simp) <;> omega) _))) hlR
      have ji0 : ∀ w, (Instr.index 70 (.agg #[.int .i64 A0, .int .i64 A1, .int .i64 A2, .int .i64 A3, .int .i64 A4, .int .i64 A5, .int .i64 A6, .int .i64 A7]) (.int .i64 0)).run Try.prog w = .ok (.agg #[.int .i64 A0, .int .i64 A1]) w := fun _ => by kernel_rfl
      have ji1 : ∀ w, (Instr.index 70 (.agg #[.int .i64 A0, .int .i64 A1, .int .i64 A2, .int .i64 A3, .int .i64 A4, .int .i64 A5, .int .i64 A6, .int .i64 A7]) (.int .i64 1)).run Try.prog w = .ok (.agg #[.int .i64 A2, .int .i64 A3]) w := fun _ => by kernel_rfl
      have ji2 : ∀ w, (Instr.index 70 (.agg #[.int .i64 A0, .int .i64 A1, .int .i64 A2, .int .i64 A3, .int .i64 A4, .int .i64 A5, .int .i64 A6, .int .i64 A7]) (.int .i64 2)).run Try.prog w = .ok (.agg #[.int .i64 A4, .int .i64 A5]) w := fun _ => by kernel_rfl
      have ji3 : ∀ w, (Instr.index 70 (.agg #[.int .i64 A0, .int .i64 A1, .int .i64 A2, .int .i64 A3, .int .i64 A4, .int .i64 A5, .int .i64 A6, .int .i64 A7]) (.int .i64 3)).run Try.prog w = .ok (.agg #[.int .i64 A6, .int .i64 A7]) w := fun _ => by kernel_rfl
      have hcv := conv_fl
      go_wp2_with (first | fail)
      refine wp_loop_rounds 5 ?_
      rw [rounds_succ]; go_wp2
      rw [rounds_succ]; go_wp2
      rw [rounds_succ]; go_wp2
      rw [rounds_succ]; go_wp2
      rw [rounds_succ]; go_wp2
      refine end_ct (w.heap.size) 28 rfl rfl rfl Try.underlying28 rfl ?_
      apply Exists.intro
      refine ⟨(by repeat (with_reducible (first | exact KR | apply bk_set | refine bk_drew ?_ | refine bk_drewN ?_ _ | refine bk_alloc ?_ _ | refine bk_far ?_ (by simp; try omega) _))), by kernel_rfl, ?_⟩
      exact Ret.of (HE.out ▸ rfl) (by repeat (with_reducible (first | exact hB | refine Below.setCell ?_ (by (try simp) <;> omega) _ | refine Below.drew ?_ | refine Below.alloc ?_ (by (try simp) <;> omega) _)))

end Go.Proofs.Ytbhacanijenbeaa
