/- The walk of the law CensusTurns, on: an empty row; the law. -/
import Derived.Test.YtbhacanijenbeaaCTurnsC
set_option linter.unusedVariables false
set_option linter.unusedSimpArgs false
namespace Go.Proofs.Ytbhacanijenbeaa
open Go.RowKit Go.Viv
attribute [local go_sem] run_store_complex run_store_float

set_option maxHeartbeats 4000000 in
theorem cTurns_zero (ad : Option Addr) (c : Nat) (w : World) : Calls Try.prog 9 #[.slice ad 0 c] w (Ret (.tuple #[.agg #[.complex .f64 0 0, .complex .f64 0 0, .complex .f64 0 0, .complex .f64 0 0], .int .i64 0]) w) := by
  have KR : ((w.alloc (.cells #[.complex .f64 0 0, .complex .f64 0 0, .complex .f64 0 0, .complex .f64 0 0] 28)).alloc (.cells #[.int .i64 0, .int .i64 0, .int .i64 0, .int .i64 0, .int .i64 0, .int .i64 0, .int .i64 0, .int .i64 0] 70)).heap[w.heap.size]? = some (.cells #[.complex .f64 0 0, .complex .f64 0 0, .complex .f64 0 0, .complex .f64 0 0] 28 (0, 0)) := (bk_alloc (bk_new _ _) _)
  have KP : ((w.alloc (.cells #[.complex .f64 0 0, .complex .f64 0 0, .complex .f64 0 0, .complex .f64 0 0] 28)).alloc (.cells #[.int .i64 0, .int .i64 0, .int .i64 0, .int .i64 0, .int .i64 0, .int .i64 0, .int .i64 0, .int .i64 0] 70)).heap[w.heap.size + 1]? = some (.cells #[.int .i64 0, .int .i64 0, .int .i64 0, .int .i64 0, .int .i64 0, .int .i64 0, .int .i64 0, .int .i64 0] 70 (0, 0)) := (by have := bk_new (w.alloc (.cells #[.complex .f64 0 0, .complex .f64 0 0, .complex .f64 0 0, .complex .f64 0 0] 28)) (.cells #[.int .i64 0, .int .i64 0, .int .i64 0, .int .i64 0, .int .i64 0, .int .i64 0, .int .i64 0, .int .i64 0] 70); simpa only [World.size_alloc] using this)
  have hBw : Below w.heap.size w ((w.alloc (.cells #[.complex .f64 0 0, .complex .f64 0 0, .complex .f64 0 0, .complex .f64 0 0] 28)).alloc (.cells #[.int .i64 0, .int .i64 0, .int .i64 0, .int .i64 0, .int .i64 0, .int .i64 0, .int .i64 0, .int .i64 0] 70)) := (boxed _ _).alloc (by simp) _
  have ji0 : ∀ w, (Instr.index 70 (.agg #[.int .i64 0, .int .i64 0, .int .i64 0, .int .i64 0, .int .i64 0, .int .i64 0, .int .i64 0, .int .i64 0]) (.int .i64 0)).run Try.prog w = .ok (.agg #[.int .i64 0, .int .i64 0]) w := fun _ => by kernel_rfl
  have ji1 : ∀ w, (Instr.index 70 (.agg #[.int .i64 0, .int .i64 0, .int .i64 0, .int .i64 0, .int .i64 0, .int .i64 0, .int .i64 0, .int .i64 0]) (.int .i64 1)).run Try.prog w = .ok (.agg #[.int .i64 0, .int .i64 0]) w := fun _ => by kernel_rfl
  have ji2 : ∀ w, (Instr.index 70 (.agg #[.int .i64 0, .int .i64 0, .int .i64 0, .int .i64 0, .int .i64 0, .int .i64 0, .int .i64 0, .int .i64 0]) (.int .i64 2)).run Try.prog w = .ok (.agg #[.int .i64 0, .int .i64 0]) w := fun _ => by kernel_rfl
  have ji3 : ∀ w, (Instr.index 70 (.agg #[.int .i64 0, .int .i64 0, .int .i64 0, .int .i64 0, .int .i64 0, .int .i64 0, .int .i64 0, .int .i64 0]) (.int .i64 3)).run Try.prog w = .ok (.agg #[.int .i64 0, .int .i64 0]) w := fun _ => by kernel_rfl
  have hcv : ∀ w, (convert 3 32 (.int .i64 0)).run Try.prog w = .ok (.float .f64 0) w := fun w => (conv_fl 0 w).trans (by rw [fl_zero])
  go_enter Try.func9, Try.ntmps9
  go_wp2_with (first | fail)
  generalize hW0 : ((w.alloc (.cells #[.complex .f64 0 0, .complex .f64 0 0, .complex .f64 0 0, .complex .f64 0 0] 28)).alloc (.cells #[.int .i64 0, .int .i64 0, .int .i64 0, .int .i64 0, .int .i64 0, .int .i64 0, .int .i64 0, .int .i64 0] 70)) = wr at *
  clear hW0
  have hlR := bk_lt KR
  have hcR := bk_cell KR; have hfR := bk_free KR
  have hcP := bk_cell KP; have hlP := bk_lt KP
  have hc5 : ∀ (o0 o1 o2 o3 o4 : Obj) (i : Nat), (((((wr.alloc o0).alloc o1).alloc o2).alloc o3).alloc o4).cell? ⟨w.heap.size, i, none⟩ = wr.cell? ⟨w.heap.size, i, none⟩ := fun o0 o1 o2 o3 o4 i => Below.cell (w := wr) (B := wr.heap.size) (by repeat (with_reducible (first | exact same _ | refine Below.alloc ?_ (by (try simp) <;> omega) _))) hlR
  have hf5 : ∀ (o0 o1 o2 o3 o4 : Obj) (i : Nat), (((((wr.alloc o0).alloc o1).alloc o2).alloc o3).alloc o4).frozen? ⟨w.heap.size, i, none⟩ = wr.frozen? ⟨w.heap.size, i, none⟩ := fun o0 o1 o2 o3 o4 i => Below.frozen (w := wr) (B := wr.heap.size) (by repeat (with_reducible (first | exact same _ | refine Below.alloc ?_ (by (try simp) <;> omega) _))) hlR
  refine wp_loop_rounds 1 ?_
  rw [rounds_succ]; go_wp2_with (first | fail)
  refine wp_loop_rounds 5 ?_
  rw [rounds_succ]; go_wp2
  rw [rounds_succ]; go_wp2
  rw [rounds_succ]; go_wp2
  rw [rounds_succ]; go_wp2
  rw [rounds_succ]; go_wp2
  refine end_ct (w.heap.size) 28 rfl rfl rfl Try.underlying28 rfl ?_
  apply Exists.intro
  refine ⟨(by repeat (with_reducible (first | exact KR | apply bk_set | refine bk_drew ?_ | refine bk_drewN ?_ _ | refine bk_alloc ?_ _ | refine bk_far ?_ (by simp; try omega) _))), by kernel_rfl, ?_⟩
  have hsz := hBw.size
  exact Ret.of rfl (by repeat (with_reducible (first | exact hBw | refine Below.setCell ?_ (by (try simp) <;> omega) _ | refine Below.drew ?_ | refine Below.alloc ?_ (by (try simp) <;> omega) _)))

set_option maxHeartbeats 4000000 in
theorem rTurns_zero (ad : Option Addr) (c : Nat) (w : World) : Calls Try.prog 8 #[.slice ad 0 c] w (Ret (.tuple #[.agg #[.int .i64 0, .int .i64 0, .int .i64 0, .int .i64 0], .agg #[.int .i64 0, .int .i64 0, .int .i64 0, .int .i64 0], .int .i64 0]) w) := by
  have K0 : ((((w.alloc (.cells #[.int .i64 0, .int .i64 0, .int .i64 0, .int .i64 0] 23)).alloc (.cells #[.int .i64 0, .int .i64 0, .int .i64 0, .int .i64 0] 23)).alloc (.cells #[.int .i64 0, .int .i64 0, .int .i64 0, .int .i64 0] 23)).alloc (.cells #[.int .i64 0, .int .i64 0, .int .i64 0, .int .i64 0] 23)).heap[w.heap.size]? = some (.cells #[.int .i64 0, .int .i64 0, .int .i64 0, .int .i64 0] 23 (0, 0)) := (bk_alloc (bk_alloc (bk_alloc (bk_new _ _) _) _) _)
  have K1 : ((((w.alloc (.cells #[.int .i64 0, .int .i64 0, .int .i64 0, .int .i64 0] 23)).alloc (.cells #[.int .i64 0, .int .i64 0, .int .i64 0, .int .i64 0] 23)).alloc (.cells #[.int .i64 0, .int .i64 0, .int .i64 0, .int .i64 0] 23)).alloc (.cells #[.int .i64 0, .int .i64 0, .int .i64 0, .int .i64 0] 23)).heap[w.heap.size + 1]? = some (.cells #[.int .i64 0, .int .i64 0, .int .i64 0, .int .i64 0] 23 (0, 0)) := (bk_alloc (bk_alloc (by have := bk_new (w.alloc (.cells #[.int .i64 0, .int .i64 0, .int .i64 0, .int .i64 0] 23)) (.cells #[.int .i64 0, .int .i64 0, .int .i64 0, .int .i64 0] 23); simpa only [World.size_alloc] using this) _) _)
  have K2 : ((((w.alloc (.cells #[.int .i64 0, .int .i64 0, .int .i64 0, .int .i64 0] 23)).alloc (.cells #[.int .i64 0, .int .i64 0, .int .i64 0, .int .i64 0] 23)).alloc (.cells #[.int .i64 0, .int .i64 0, .int .i64 0, .int .i64 0] 23)).alloc (.cells #[.int .i64 0, .int .i64 0, .int .i64 0, .int .i64 0] 23)).heap[w.heap.size + 1 + 1]? = some (.cells #[.int .i64 0, .int .i64 0, .int .i64 0, .int .i64 0] 23 (0, 0)) := (bk_alloc (by have := bk_new ((w.alloc (.cells #[.int .i64 0, .int .i64 0, .int .i64 0, .int .i64 0] 23)).alloc (.cells #[.int .i64 0, .int .i64 0, .int .i64 0, .int .i64 0] 23)) (.cells #[.int .i64 0, .int .i64 0, .int .i64 0, .int .i64 0] 23); simpa only [World.size_alloc] using this) _)
  have K3 : ((((w.alloc (.cells #[.int .i64 0, .int .i64 0, .int .i64 0, .int .i64 0] 23)).alloc (.cells #[.int .i64 0, .int .i64 0, .int .i64 0, .int .i64 0] 23)).alloc (.cells #[.int .i64 0, .int .i64 0, .int .i64 0, .int .i64 0] 23)).alloc (.cells #[.int .i64 0, .int .i64 0, .int .i64 0, .int .i64 0] 23)).heap[w.heap.size + 1 + 1 + 1]? = some (.cells #[.int .i64 0, .int .i64 0, .int .i64 0, .int .i64 0] 23 (0, 0)) := (by have := bk_new (((w.alloc (.cells #[.int .i64 0, .int .i64 0, .int .i64 0, .int .i64 0] 23)).alloc (.cells #[.int .i64 0, .int .i64 0, .int .i64 0, .int .i64 0] 23)).alloc (.cells #[.int .i64 0, .int .i64 0, .int .i64 0, .int .i64 0] 23)) (.cells #[.int .i64 0, .int .i64 0, .int .i64 0, .int .i64 0] 23); simpa only [World.size_alloc] using this)
  have hBw : Below w.heap.size w ((((w.alloc (.cells #[.int .i64 0, .int .i64 0, .int .i64 0, .int .i64 0] 23)).alloc (.cells #[.int .i64 0, .int .i64 0, .int .i64 0, .int .i64 0] 23)).alloc (.cells #[.int .i64 0, .int .i64 0, .int .i64 0, .int .i64 0] 23)).alloc (.cells #[.int .i64 0, .int .i64 0, .int .i64 0, .int .i64 0] 23)) := (((boxed _ _).alloc (by simp) _).alloc (by simp; try omega) _).alloc (by simp; try omega) _
  go_enter Try.func8, Try.ntmps8
  go_wp2_with (first | fail)
  generalize hW0 : ((((w.alloc (.cells #[.int .i64 0, .int .i64 0, .int .i64 0, .int .i64 0] 23)).alloc (.cells #[.int .i64 0, .int .i64 0, .int .i64 0, .int .i64 0] 23)).alloc (.cells #[.int .i64 0, .int .i64 0, .int .i64 0, .int .i64 0] 23)).alloc (.cells #[.int .i64 0, .int .i64 0, .int .i64 0, .int .i64 0] 23)) = W0 at *
  clear hW0
  have hc2 := bk_cell K2; have hc3 := bk_cell K3; have hc0 := bk_cell K0; have hc1 := bk_cell K1; have hf0 := bk_free K0; have hf1 := bk_free K1
  have hB := hBw
  refine wp_loop_rounds 1 ?_
  rw [rounds_succ]; go_wp2_with (first | fail)
  refine wp_loop_rounds 5 ?_
  rw [rounds_succ]; go_wp2_with (first | fail)
  refine wp_loop_rounds 1 ?_
  rw [rounds_succ]; go_wp2_with (first | fail)
  rw [rounds_succ]; go_wp2_with (first | fail)
  refine wp_loop_rounds 1 ?_
  rw [rounds_succ]; go_wp2_with (first | fail)
  rw [rounds_succ]; go_wp2_with (first | fail)
  refine wp_loop_rounds 1 ?_
  rw [rounds_succ]; go_wp2_with (first | fail)
  rw [rounds_succ]; go_wp2_with (first | fail)
  refine wp_loop_rounds 1 ?_
  rw [rounds_succ]; go_wp2_with (first | fail)
  rw [rounds_succ]; go_wp2_with (first | fail)
  go_region
  go_wp2
  refine end_cct (w.heap.size) (w.heap.size + 1) 23 23 rfl rfl rfl rfl Try.underlying23 rfl Try.underlying23 rfl ?_
  apply Exists.intro; apply Exists.intro
  refine ⟨(by repeat (with_reducible (first | exact K0 | apply bk_set | refine bk_drew ?_ | refine bk_drewN ?_ _ | refine bk_alloc ?_ _ | refine bk_far ?_ (by simp; try omega) _))), (by repeat (with_reducible (first | exact K1 | apply bk_set | refine bk_drew ?_ | refine bk_drewN ?_ _ | refine bk_alloc ?_ _ | refine bk_far ?_ (by simp; try omega) _))), by kernel_rfl, by kernel_rfl, ?_⟩
  exact Ret.of rfl (by repeat (with_reducible (first | exact hB | refine Below.setCell ?_ (by (try simp) <;> omega) _ | refine Below.drew ?_ | refine Below.alloc ?_ (by (try simp) <;> omega) _)))

theorem float0 (w : World) : Calls Try.prog 10 #[.float .f64 0, .float .f64 0] w (fun e w' => e = .returned (.bool true) ∧ w' = w) := by
  have h := float_calls 0 w (by decide)
  rw [fl_zero] at h
  exact h

set_option maxRecDepth 20000 in
set_option maxHeartbeats 4000000 in
theorem CensusTurns_zero (ad : Option Addr) (c : Nat) (w : World) :
    Calls Try.prog 3 #[.slice ad 0 c] w (Ret (.bool true) w) := by
  have hcv : ∀ w, (convert 3 32 (.int .i64 0)).run Try.prog w = .ok (.float .f64 0) w := fun w => (conv_fl 0 w).trans (by rw [fl_zero])
  have hB := same w
  cases ad
  all_goals
    go_enter Try.func3, Try.ntmps3
    go_wp2_with (first | fail)
    refine (rTurns_zero _ _ _).mono ?_
    rintro e w1 ⟨rfl, hb1⟩
    replace hB := next hB hb1
    have hr0 : ((w1.alloc (.cells #[.int .i64 0, .int .i64 0, .int .i64 0, .int .i64 0] 23)).alloc (.cells #[.int .i64 0, .int .i64 0, .int .i64 0, .int .i64 0] 23)).heap[w1.heap.size]? = some (.cells #[.int .i64 0, .int .i64 0, .int .i64 0, .int .i64 0] 23 (0, 0)) := bk_alloc (bk_new _ _) _
    have hr1 : ((w1.alloc (.cells #[.int .i64 0, .int .i64 0, .int .i64 0, .int .i64 0] 23)).alloc (.cells #[.int .i64 0, .int .i64 0, .int .i64 0, .int .i64 0] 23)).heap[w1.heap.size + 1]? = some (.cells #[.int .i64 0, .int .i64 0, .int .i64 0, .int .i64 0] 23 (0, 0)) := bk_newn _ _ _ (by simp)
    have hb2 : Below w1.heap.size w1 ((w1.alloc (.cells #[.int .i64 0, .int .i64 0, .int .i64 0, .int .i64 0] 23)).alloc (.cells #[.int .i64 0, .int .i64 0, .int .i64 0, .int .i64 0] 23)) := (boxed _ _).alloc (by simp) _
    go_wp2_with (first | fail)
    refine (cTurns_zero _ _ _).mono ?_
    rintro e w3 ⟨rfl, hb1⟩
    replace hr0 := bk_below hr0 hb1; replace hr1 := bk_below hr1 hb1
    replace hB := hB.trans ((next hb2 hb1).mono hB.size)
    clear hb1 hb2
    go_wp2_with (first | fail)
    have KV := bk_new w3 (.cells #[.complex .f64 0 0, .complex .f64 0 0, .complex .f64 0 0, .complex .f64 0 0] 28)
    replace hr0 := bk_alloc hr0 (.cells #[.complex .f64 0 0, .complex .f64 0 0, .complex .f64 0 0, .complex .f64 0 0] 28); replace hr1 := bk_alloc hr1 (.cells #[.complex .f64 0 0, .complex .f64 0 0, .complex .f64 0 0, .complex .f64 0 0] 28)
    replace hB := next hB (boxed w3 (.cells #[.complex .f64 0 0, .complex .f64 0 0, .complex .f64 0 0, .complex .f64 0 0] 28))
    generalize hWL : w3.alloc (.cells #[.complex .f64 0 0, .complex .f64 0 0, .complex .f64 0 0, .complex .f64 0 0] 28) = W0 at *
    clear hWL
    generalize w3.heap.size = gv at *
    generalize w1.heap.size = gr at *
    refine wp_loop_rounds 1 ?_
    rw [rounds_succ]; go_wp2_with (first | fail)
    have hc0 := bk_cell hr0; have hc1 := bk_cell hr1; have hcV := bk_cell KV
    refine wp_loop_rounds 5 ?_
    rw [rounds_succ]; go_wp2_with (first | fail)
    go_quiet (first | (go_at_call 10; refine Calls.quiet_of_same (float0 _)))
    go_wp2_with (first | fail)
    replace hB := next hB (dN W0 nq)
    replace hr0 := bk_drewN hr0 nq; replace hr1 := bk_drewN hr1 nq; replace KV := bk_drewN KV nq
    generalize hwk0 : World.drewN W0 nq = W1 at *
    clear hwk0 nq
    have hc0 := bk_cell hr0; have hc1 := bk_cell hr1; have hcV := bk_cell KV
    rw [rounds_succ]; go_wp2_with (first | fail)
    go_quiet (first | (go_at_call 10; refine Calls.quiet_of_same (float0 _)))
    go_wp2_with (first | fail)
    replace hB := next hB (dN W1 nq)
    replace hr0 := bk_drewN hr0 nq; replace hr1 := bk_drewN hr1 nq; replace KV := bk_drewN KV nq
    generalize hwk1 : World.drewN W1 nq = W2 at *
    clear hwk1 nq
    have hc0 := bk_cell hr0; have hc1 := bk_cell hr1; have hcV := bk_cell KV
    rw [rounds_succ]; go_wp2_with (first | fail)
    go_quiet (first | (go_at_call 10; refine Calls.quiet_of_same (float0 _)))
    go_wp2_with (first | fail)
    replace hB := next hB (dN W2 nq)
    replace hr0 := bk_drewN hr0 nq; replace hr1 := bk_drewN hr1 nq; replace KV := bk_drewN KV nq
    generalize hwk2 : World.drewN W2 nq = W3 at *
    clear hwk2 nq
    have hc0 := bk_cell hr0; have hc1 := bk_cell hr1; have hcV := bk_cell KV
    rw [rounds_succ]; go_wp2_with (first | fail)
    go_quiet (first | (go_at_call 10; refine Calls.quiet_of_same (float0 _)))
    go_wp2_with (first | fail)
    replace hB := next hB (dN W3 nq)
    replace hr0 := bk_drewN hr0 nq; replace hr1 := bk_drewN hr1 nq; replace KV := bk_drewN KV nq
    generalize hwk3 : World.drewN W3 nq = W4 at *
    clear hwk3 nq
    have hc0 := bk_cell hr0; have hc1 := bk_cell hr1; have hcV := bk_cell KV
    rw [rounds_succ]; go_wp2
    go_ret
    exact Ret.of (by simp) (by repeat (with_reducible (first | exact hB | refine Below.drew ?_ | refine below_drewN ?_ _)))

end Go.Proofs.Ytbhacanijenbeaa
