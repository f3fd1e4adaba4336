/- The walk of the law FoldSteps: its small functions. -/
import Derived.Test.YtfdehecekghlmaaAwake
import Derived.Test.YtfdehecekghlmaaStepsM
import Derived.StillTailTactics
set_option linter.unusedVariables false
set_option linter.unusedSimpArgs false
namespace Go.Proofs.Ytfdehecekghlmaa
open Go.RowKit Go.Viv
attribute [local go_sem] run_store_complex run_store_float

theorem near_big (n : Int) (w : World) (h1 : -9223372036854775808 ≤ n) (h2 : n ≤ 9223372036854775807) : Calls Try.prog 26 #[.int .i64 n, .int .i64 549755813888] w (fun e w' => e = .returned (.int .i64 (n.tmod 549755813889)) ∧ w' = w) := by
  go_enter Try.func26, Try.ntmps26
  go_wp2
  go_ret
  exact ⟨rfl, rfl⟩
theorem near_one (n : Int) (w : World) (h1 : -9223372036854775808 ≤ n) (h2 : n ≤ 9223372036854775807) : Calls Try.prog 26 #[.int .i64 n, .int .i64 1] w (fun e w' => e = .returned (.int .i64 (n.tmod 2)) ∧ w' = w) := by
  go_enter Try.func26, Try.ntmps26
  go_wp2
  go_ret
  exact ⟨rfl, rfl⟩

set_option maxHeartbeats 1000000 in
theorem tile_same (u W : Int) (w : World) (h0 : 0 ≤ W) (h3 : W ≤ 65536) (h1 : -4398046511104 ≤ u) (h2 : u ≤ 4398046511104) : Calls Try.prog 27 #[.int .i64 u, .int .i64 W] w (fun e w' => e = .returned (.int .i64 (u / W)) ∧ w' = w) := by
  by_cases hW : W = 0
  · subst hW
    go_enter Try.func27, Try.ntmps27
    go_wp2
    go_ret
    exact ⟨by simp, rfl⟩
  · have hp : 0 < W := by omega
    by_cases hu : u < 0
    · have e := tile_neg hp hu
      have b1 : 0 ≤ (W - 1 - u).tdiv W := Int.tdiv_nonneg (by omega) (by omega)
      have b2 : (W - 1 - u).tdiv W ≤ W - 1 - u := by rw [Int.tdiv_eq_ediv_of_nonneg (by omega)]; exact Int.ediv_le_self _ (by omega)
      have HE := Lib.hid e; clear e hW
      go_enter Try.func27, Try.ntmps27
      go_wp2
      go_ret
      exact ⟨by rw [← HE.out]; rfl, rfl⟩
    · have e : u.tdiv W = u / W := Int.tdiv_eq_ediv_of_nonneg (by omega)
      have b1 : 0 ≤ u.tdiv W := Int.tdiv_nonneg (by omega) (by omega)
      have b2 : u.tdiv W ≤ u := by rw [e]; exact Int.ediv_le_self _ (by omega)
      have HE := Lib.hid e; clear e hW
      go_enter Try.func27, Try.ntmps27
      go_wp2
      go_ret
      exact ⟨by rw [← HE.out]; rfl, rfl⟩

def lgl (k W H t s : Int) : Bool := decide (checkE k W H t s = 0) && gluedI k
set_option maxHeartbeats 1000000 in
theorem lglued_calls (k W H t s : Int) (w : World) (t0 : 0 ≤ t) : Calls Try.prog 23 #[topoV k W H t s] w (Ret (.bool (lgl k W H t s)) w) := by
  have c1 := fun w => Check_calls k W H t s w t0
  obtain ⟨X, hX⟩ : ∃ X, lgl k W H t s = X := ⟨_, rfl⟩
  rw [hX]
  obtain ⟨E, hE⟩ : ∃ E, checkE k W H t s = E := ⟨_, rfl⟩
  have hX2 : X = (decide (E = 0) && gluedI k) := by rw [← hX, ← hE]; rfl
  rw [hE] at c1
  have C1 := Lib.hid c1; have HX := Lib.hid hX2
  clear c1 hX hE hX2
  have K1 : (w.alloc (.cells #[.int .u8 k, .int .i64 W, .int .i64 H, .int .u8 t, .int .i64 s] 23)).heap[w.heap.size]? = some (.cells #[.int .u8 k, .int .i64 W, .int .i64 H, .int .u8 t, .int .i64 s] 23 (0, 0)) := (bk_new _ _)
  have hBw : Below w.heap.size w (w.alloc (.cells #[.int .u8 k, .int .i64 W, .int .i64 H, .int .u8 t, .int .i64 s] 23)) := boxed _ _
  go_enter Try.func23, Try.ntmps23
  go_wp2_with (first | fail)
  generalize hW0 : (w.alloc (.cells #[.int .u8 k, .int .i64 W, .int .i64 H, .int .u8 t, .int .i64 s] 23)) = W0 at *
  clear hW0
  have hB := same W0
  have K10 := K1
  refine (C1.out _).mono ?_
  rintro e w1 ⟨rfl, hb1⟩
  replace hB := next hB hb1; replace K1 := bk_below K1 hb1; have hcK1 := bk_cell K1; have hfK1 := bk_free K1; have hlK1 := bk_lt K1
  go_wp2
  all_goals
    go_ret
    refine Ret.of (congrArg Value.bool ?_) (by repeat (with_reducible (first | exact hBw.trans (hB.mono hBw.size) | refine Below.setCell ?_ (by have h1_ := hBw.size; have h2_ := hB.size; (try simp) <;> omega) _ | refine Below.drew ?_ | refine Below.alloc ?_ (by have h1_ := hBw.size; have h2_ := hB.size; (try simp) <;> omega) _)))
    rw [HX.out]
    unfold gluedI
    rw [Bool.eq_iff_iff]
    simp
    try omega

/-- one of the linear maps comes back -/
def RetP (n : Int) (w : World) (e : Ending) (w' : World) : Prop := ∃ tr ti mr mi : Nat, e = .returned (.tuple #[isoV tr ti (decide (4 ≤ n)) mr mi, .int .i64 0]) ∧ IsIso tr ti mr mi (n % 4) 0 0 ∧ Below w.heap.size w w'

set_option maxHeartbeats 2000000 in
theorem isoPart_0 (w : World) : Calls Try.prog 28 #[.int .i64 0] w (RetP 0 w) := by
  have jx : ∀ w, (Instr.index 89 (.agg #[.complex .f64 4607182418800017408 0, .complex .f64 0 4607182418800017408, .complex .f64 13830554455654793216 0, .complex .f64 0 13830554455654793216]) (.int .i64 0)).run Try.prog w = .ok (.complex .f64 4607182418800017408 0) w := fun _ => by kernel_rfl
  have KR : (w.alloc (.cells #[.complex .f64 0 0, .bool false, .complex .f64 0 0] 41)).heap[w.heap.size]? = some (.cells #[.complex .f64 0 0, .bool false, .complex .f64 0 0] 41 (0, 0)) := (bk_new _ _)
  have hBw : Below w.heap.size w (w.alloc (.cells #[.complex .f64 0 0, .bool false, .complex .f64 0 0] 41)) := boxed _ _
  go_enter Try.func28, Try.ntmps28
  go_wp2_with (first | fail)
  generalize hW0 : (w.alloc (.cells #[.complex .f64 0 0, .bool false, .complex .f64 0 0] 41)) = W0 at *
  clear hW0
  have hB := same W0
  have KR0 := KR
  refine (turns_calls _).mono ?_
  rintro e w1 ⟨rfl, hb1⟩
  replace hB := next hB hb1; replace KR := bk_below KR hb1; have hcKR := bk_cell KR; have hfKR := bk_free KR; have hlKR := bk_lt KR
  go_wp2_with (first | fail)
  refine (made_calls _ _ _ _ _ 0 0 0 _ ⟨by decide, by decide, isW_one, isW_zero, isW_zero, isW_zero⟩ (by decide) (by decide)).mono ?_
  rintro e w2 ⟨tr, ti, mr, mi, rfl, hI, hb1⟩
  replace hB := next hB hb1; replace KR := bk_below KR hb1; have hcKR := bk_cell KR; have hfKR := bk_free KR; have hlKR := bk_lt KR
  go_wp2_with (first | fail)
  refine end_ct (w.heap.size) 41 rfl rfl rfl Try.underlying41 rfl ?_
  apply Exists.intro
  refine ⟨(by repeat (with_reducible (first | exact KR | apply bk_set | refine bk_drew ?_ | refine bk_drewN ?_ _ | refine bk_alloc ?_ _ | refine bk_far ?_ (by simp; try omega) _))), by kernel_rfl, ?_⟩
  exact ⟨tr, ti, mr, mi, rfl, hI, (by repeat (with_reducible (first | exact hBw.trans (hB.mono hBw.size) | refine Below.setCell ?_ (by have h1_ := hBw.size; have h2_ := hB.size; (try simp) <;> omega) _ | refine Below.drew ?_ | refine Below.alloc ?_ (by have h1_ := hBw.size; have h2_ := hB.size; (try simp) <;> omega) _)))⟩

set_option maxHeartbeats 2000000 in
theorem isoPart_2 (w : World) : Calls Try.prog 28 #[.int .i64 2] w (RetP 2 w) := by
  have jx : ∀ w, (Instr.index 89 (.agg #[.complex .f64 4607182418800017408 0, .complex .f64 0 4607182418800017408, .complex .f64 13830554455654793216 0, .complex .f64 0 13830554455654793216]) (.int .i64 2)).run Try.prog w = .ok (.complex .f64 13830554455654793216 0) w := fun _ => by kernel_rfl
  have KR : (w.alloc (.cells #[.complex .f64 0 0, .bool false, .complex .f64 0 0] 41)).heap[w.heap.size]? = some (.cells #[.complex .f64 0 0, .bool false, .complex .f64 0 0] 41 (0, 0)) := (bk_new _ _)
  have hBw : Below w.heap.size w (w.alloc (.cells #[.complex .f64 0 0, .bool false, .complex .f64 0 0] 41)) := boxed _ _
  go_enter Try.func28, Try.ntmps28
  go_wp2_with (first | fail)
  generalize hW0 : (w.alloc (.cells #[.complex .f64 0 0, .bool false, .complex .f64 0 0] 41)) = W0 at *
  clear hW0
  have hB := same W0
  have KR0 := KR
  refine (turns_calls _).mono ?_
  rintro e w1 ⟨rfl, hb1⟩
  replace hB := next hB hb1; replace KR := bk_below KR hb1; have hcKR := bk_cell KR; have hfKR := bk_free KR; have hlKR := bk_lt KR
  go_wp2_with (first | fail)
  refine (made_calls _ _ _ _ _ 2 0 0 _ ⟨by decide, by decide, isW_neg, isW_zero, isW_zero, isW_zero⟩ (by decide) (by decide)).mono ?_
  rintro e w2 ⟨tr, ti, mr, mi, rfl, hI, hb1⟩
  replace hB := next hB hb1; replace KR := bk_below KR hb1; have hcKR := bk_cell KR; have hfKR := bk_free KR; have hlKR := bk_lt KR
  go_wp2_with (first | fail)
  refine end_ct (w.heap.size) 41 rfl rfl rfl Try.underlying41 rfl ?_
  apply Exists.intro
  refine ⟨(by repeat (with_reducible (first | exact KR | apply bk_set | refine bk_drew ?_ | refine bk_drewN ?_ _ | refine bk_alloc ?_ _ | refine bk_far ?_ (by simp; try omega) _))), by kernel_rfl, ?_⟩
  exact ⟨tr, ti, mr, mi, rfl, hI, (by repeat (with_reducible (first | exact hBw.trans (hB.mono hBw.size) | refine Below.setCell ?_ (by have h1_ := hBw.size; have h2_ := hB.size; (try simp) <;> omega) _ | refine Below.drew ?_ | refine Below.alloc ?_ (by have h1_ := hBw.size; have h2_ := hB.size; (try simp) <;> omega) _)))⟩

set_option maxHeartbeats 2000000 in
theorem isoPart_4 (w : World) : Calls Try.prog 28 #[.int .i64 4] w (RetP 4 w) := by
  have jx : ∀ w, (Instr.index 89 (.agg #[.complex .f64 4607182418800017408 0, .complex .f64 0 4607182418800017408, .complex .f64 13830554455654793216 0, .complex .f64 0 13830554455654793216]) (.int .i64 0)).run Try.prog w = .ok (.complex .f64 4607182418800017408 0) w := fun _ => by kernel_rfl
  have KR : (w.alloc (.cells #[.complex .f64 0 0, .bool false, .complex .f64 0 0] 41)).heap[w.heap.size]? = some (.cells #[.complex .f64 0 0, .bool false, .complex .f64 0 0] 41 (0, 0)) := (bk_new _ _)
  have hBw : Below w.heap.size w (w.alloc (.cells #[.complex .f64 0 0, .bool false, .complex .f64 0 0] 41)) := boxed _ _
  go_enter Try.func28, Try.ntmps28
  go_wp2_with (first | fail)
  generalize hW0 : (w.alloc (.cells #[.complex .f64 0 0, .bool false, .complex .f64 0 0] 41)) = W0 at *
  clear hW0
  have hB := same W0
  have KR0 := KR
  refine (turns_calls _).mono ?_
  rintro e w1 ⟨rfl, hb1⟩
  replace hB := next hB hb1; replace KR := bk_below KR hb1; have hcKR := bk_cell KR; have hfKR := bk_free KR; have hlKR := bk_lt KR
  go_wp2_with (first | fail)
  refine (made_calls _ _ _ _ _ 0 0 0 _ ⟨by decide, by decide, isW_one, isW_zero, isW_zero, isW_zero⟩ (by decide) (by decide)).mono ?_
  rintro e w2 ⟨tr, ti, mr, mi, rfl, hI, hb1⟩
  replace hB := next hB hb1; replace KR := bk_below KR hb1; have hcKR := bk_cell KR; have hfKR := bk_free KR; have hlKR := bk_lt KR
  go_wp2_with (first | fail)
  refine end_ct (w.heap.size) 41 rfl rfl rfl Try.underlying41 rfl ?_
  apply Exists.intro
  refine ⟨(by repeat (with_reducible (first | exact KR | apply bk_set | refine bk_drew ?_ | refine bk_drewN ?_ _ | refine bk_alloc ?_ _ | refine bk_far ?_ (by simp; try omega) _))), by kernel_rfl, ?_⟩
  exact ⟨tr, ti, mr, mi, rfl, hI, (by repeat (with_reducible (first | exact hBw.trans (hB.mono hBw.size) | refine Below.setCell ?_ (by have h1_ := hBw.size; have h2_ := hB.size; (try simp) <;> omega) _ | refine Below.drew ?_ | refine Below.alloc ?_ (by have h1_ := hBw.size; have h2_ := hB.size; (try simp) <;> omega) _)))⟩

set_option maxHeartbeats 2000000 in
theorem isoPart_6 (w : World) : Calls Try.prog 28 #[.int .i64 6] w (RetP 6 w) := by
  have jx : ∀ w, (Instr.index 89 (.agg #[.complex .f64 4607182418800017408 0, .complex .f64 0 4607182418800017408, .complex .f64 13830554455654793216 0, .complex .f64 0 13830554455654793216]) (.int .i64 2)).run Try.prog w = .ok (.complex .f64 13830554455654793216 0) w := fun _ => by kernel_rfl
  have KR : (w.alloc (.cells #[.complex .f64 0 0, .bool false, .complex .f64 0 0] 41)).heap[w.heap.size]? = some (.cells #[.complex .f64 0 0, .bool false, .complex .f64 0 0] 41 (0, 0)) := (bk_new _ _)
  have hBw : Below w.heap.size w (w.alloc (.cells #[.complex .f64 0 0, .bool false, .complex .f64 0 0] 41)) := boxed _ _
  go_enter Try.func28, Try.ntmps28
  go_wp2_with (first | fail)
  generalize hW0 : (w.alloc (.cells #[.complex .f64 0 0, .bool false, .complex .f64 0 0] 41)) = W0 at *
  clear hW0
  have hB := same W0
  have KR0 := KR
  refine (turns_calls _).mono ?_
  rintro e w1 ⟨rfl, hb1⟩
  replace hB := next hB hb1; replace KR := bk_below KR hb1; have hcKR := bk_cell KR; have hfKR := bk_free KR; have hlKR := bk_lt KR
  go_wp2_with (first | fail)
  refine (made_calls _ _ _ _ _ 2 0 0 _ ⟨by decide, by decide, isW_neg, isW_zero, isW_zero, isW_zero⟩ (by decide) (by decide)).mono ?_
  rintro e w2 ⟨tr, ti, mr, mi, rfl, hI, hb1⟩
  replace hB := next hB hb1; replace KR := bk_below KR hb1; have hcKR := bk_cell KR; have hfKR := bk_free KR; have hlKR := bk_lt KR
  go_wp2_with (first | fail)
  refine end_ct (w.heap.size) 41 rfl rfl rfl Try.underlying41 rfl ?_
  apply Exists.intro
  refine ⟨(by repeat (with_reducible (first | exact KR | apply bk_set | refine bk_drew ?_ | refine bk_drewN ?_ _ | refine bk_alloc ?_ _ | refine bk_far ?_ (by simp; try omega) _))), by kernel_rfl, ?_⟩
  exact ⟨tr, ti, mr, mi, rfl, hI, (by repeat (with_reducible (first | exact hBw.trans (hB.mono hBw.size) | refine Below.setCell ?_ (by have h1_ := hBw.size; have h2_ := hB.size; (try simp) <;> omega) _ | refine Below.drew ?_ | refine Below.alloc ?_ (by have h1_ := hBw.size; have h2_ := hB.size; (try simp) <;> omega) _)))⟩

theorem isoPart_calls (n : Int) (w : World) (hn : n = 0 ∨ n = 2 ∨ n = 4 ∨ n = 6) : Calls Try.prog 28 #[.int .i64 n] w (RetP n w) := by
  rcases hn with rfl | rfl | rfl | rfl
  · exact isoPart_0 w
  · exact isoPart_2 w
  · exact isoPart_4 w
  · exact isoPart_6 w
theorem partN_v (k W H t s x y : Int) : partN k W H t s x y = 0 ∨ partN k W H t s x y = 2 ∨ partN k W H t s x y = 4 ∨ partN k W H t s x y = 6 := by
  unfold partN
  split
  · simp
  · dsimp only; (repeat' split) <;> simp

end Go.Proofs.Ytfdehecekghlmaa
