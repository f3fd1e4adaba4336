/- The walks of iso's small functions: how often a Turn turns, whether a map may be. The walks of iso's small functions, on: what a map does to a number. The walks of iso's calls: Valid, made, At, Which, Part. -/
import Derived.Test.YtfdehecekghlmaaMa
import Derived.Test.YtfdehecekghlmaaB0
import Derived.Laws.Cover2
import Derived.Laws.Cover3
import Derived.Laws.ComplexArith
import Derived.LoopN
import Derived.Test.YtfdehecekghlmaaMc

set_option linter.unusedVariables false
set_option linter.unusedSimpArgs false
namespace Go.Proofs.Ytfdehecekghlmaa
open Go.RowKit Go.Viv

theorem run_store_complex (P : Program) (w : World) (a : Addr) (m : Mode) (k : FloatKind) (x y : Nat) : (store a (.complex k x y) m).run P w = stored P w a (.complex k x y) m := run_store P w a _ m rfl
theorem run_store_float (P : Program) (w : World) (a : Addr) (m : Mode) (k : FloatKind) (x : Nat) : (store a (.float k x) m).run P w = stored P w a (.float k x) m := run_store P w a _ m rfl
attribute [local go_sem] run_store_complex run_store_float

theorem fl_one : fl 1 = 4607182418800017408 := by decide
theorem fl_neg : fl (-1) = 13830554455654793216 := by decide
theorem fl_zero : fl 0 = 0 := by decide
theorem isW_one : IsW 4607182418800017408 1 := fl_one ▸ isW_fl 1 (by decide)
theorem isW_neg : IsW 13830554455654793216 (-1) := fl_neg ▸ isW_fl (-1) (by decide)
theorem isW_zero : IsW 0 0 := fl_zero ▸ isW_fl 0 (by decide)

/-- the parts of the k-th power of i -/
def qre (k : Int) : Int := if k = 0 then 1 else if k = 2 then -1 else 0
def qim (k : Int) : Int := if k = 1 then 1 else if k = 3 then -1 else 0

abbrev F64 : Ieee.Format := FloatKind.f64.format
theorem ord {x y : Nat} {a b : Int} (hx : IsW x a) (hy : IsW y b) : F64.order x y = some (compare a b) := isW_order hx hy

set_option maxHeartbeats 1000000 in
theorem turns_calls (w : World) : Calls Try.prog 60 #[] w (Ret (.agg #[.complex .f64 4607182418800017408 0, .complex .f64 0 4607182418800017408, .complex .f64 13830554455654793216 0, .complex .f64 0 13830554455654793216]) w) := by
  have K := bk_new w (.cells #[.complex .f64 4607182418800017408 0, .complex .f64 0 4607182418800017408, .complex .f64 13830554455654793216 0, .complex .f64 0 13830554455654793216] 89)
  go_enter Try.func60, Try.ntmps60
  go_wp2
  refine end_c (w.heap.size) 89 rfl rfl rfl Try.underlying89 rfl ?_
  exact ⟨_, K, by kernel_rfl, Ret.of rfl (boxed _ _)⟩

set_option maxHeartbeats 1000000 in
theorem quarter_0 (tr ti : Nat) (w : World) (hr : IsW tr (1)) (hi : IsW ti (0)) : Calls Try.prog 75 #[.complex .f64 tr ti] w (Ret (.tuple #[.int .i64 0, .bool true]) w) := by
  have r1 : F64.order 4607182418800017408 tr = some (compare 1 (1)) := ord isW_one hr
  have r2 : F64.order 13830554455654793216 tr = some (compare (-1) (1)) := ord isW_neg hr
  have r3 : F64.order 0 tr = some (compare 0 (1)) := ord isW_zero hr
  have i1 : F64.order 4607182418800017408 ti = some (compare 1 (0)) := ord isW_one hi
  have i2 : F64.order 13830554455654793216 ti = some (compare (-1) (0)) := ord isW_neg hi
  have i3 : F64.order 0 ti = some (compare 0 (0)) := ord isW_zero hi
  have j0 : ∀ w, (Instr.index 89 (.agg #[.complex .f64 4607182418800017408 0, .complex .f64 0 4607182418800017408, .complex .f64 13830554455654793216 0, .complex .f64 0 13830554455654793216]) (.int .i64 0)).run Try.prog w = .ok (.complex .f64 4607182418800017408 0) w := fun _ => by kernel_rfl
  have j1 : ∀ w, (Instr.index 89 (.agg #[.complex .f64 4607182418800017408 0, .complex .f64 0 4607182418800017408, .complex .f64 13830554455654793216 0, .complex .f64 0 13830554455654793216]) (.int .i64 1)).run Try.prog w = .ok (.complex .f64 0 4607182418800017408) w := fun _ => by kernel_rfl
  have j2 : ∀ w, (Instr.index 89 (.agg #[.complex .f64 4607182418800017408 0, .complex .f64 0 4607182418800017408, .complex .f64 13830554455654793216 0, .complex .f64 0 13830554455654793216]) (.int .i64 2)).run Try.prog w = .ok (.complex .f64 13830554455654793216 0) w := fun _ => by kernel_rfl
  have j3 : ∀ w, (Instr.index 89 (.agg #[.complex .f64 4607182418800017408 0, .complex .f64 0 4607182418800017408, .complex .f64 13830554455654793216 0, .complex .f64 0 13830554455654793216]) (.int .i64 3)).run Try.prog w = .ok (.complex .f64 0 13830554455654793216) w := fun _ => by kernel_rfl
  go_enter Try.func75, Try.ntmps75
  go_wp2_with (first | (go_at_call 60; ((with_reducible refine (turns_calls _).mono ?_); rintro e w1 ⟨rfl, hb1⟩)))
  refine wp_loop_rounds 1 ?_
  rw [rounds_succ]; go_wp2
  go_ret2
  exact Ret.of rfl hb1

set_option maxHeartbeats 1000000 in
theorem quarter_1 (tr ti : Nat) (w : World) (hr : IsW tr (0)) (hi : IsW ti (1)) : Calls Try.prog 75 #[.complex .f64 tr ti] w (Ret (.tuple #[.int .i64 1, .bool true]) w) := by
  have r1 : F64.order 4607182418800017408 tr = some (compare 1 (0)) := ord isW_one hr
  have r2 : F64.order 13830554455654793216 tr = some (compare (-1) (0)) := ord isW_neg hr
  have r3 : F64.order 0 tr = some (compare 0 (0)) := ord isW_zero hr
  have i1 : F64.order 4607182418800017408 ti = some (compare 1 (1)) := ord isW_one hi
  have i2 : F64.order 13830554455654793216 ti = some (compare (-1) (1)) := ord isW_neg hi
  have i3 : F64.order 0 ti = some (compare 0 (1)) := ord isW_zero hi
  have j0 : ∀ w, (Instr.index 89 (.agg #[.complex .f64 4607182418800017408 0, .complex .f64 0 4607182418800017408, .complex .f64 13830554455654793216 0, .complex .f64 0 13830554455654793216]) (.int .i64 0)).run Try.prog w = .ok (.complex .f64 4607182418800017408 0) w := fun _ => by kernel_rfl
  have j1 : ∀ w, (Instr.index 89 (.agg #[.complex .f64 4607182418800017408 0, .complex .f64 0 4607182418800017408, .complex .f64 13830554455654793216 0, .complex .f64 0 13830554455654793216]) (.int .i64 1)).run Try.prog w = .ok (.complex .f64 0 4607182418800017408) w := fun _ => by kernel_rfl
  have j2 : ∀ w, (Instr.index 89 (.agg #[.complex .f64 4607182418800017408 0, .complex .f64 0 4607182418800017408, .complex .f64 13830554455654793216 0, .complex .f64 0 13830554455654793216]) (.int .i64 2)).run Try.prog w = .ok (.complex .f64 13830554455654793216 0) w := fun _ => by kernel_rfl
  have j3 : ∀ w, (Instr.index 89 (.agg #[.complex .f64 4607182418800017408 0, .complex .f64 0 4607182418800017408, .complex .f64 13830554455654793216 0, .complex .f64 0 13830554455654793216]) (.int .i64 3)).run Try.prog w = .ok (.complex .f64 0 13830554455654793216) w := fun _ => by kernel_rfl
  go_enter Try.func75, Try.ntmps75
  go_wp2_with (first | (go_at_call 60; ((with_reducible refine (turns_calls _).mono ?_); rintro e w1 ⟨rfl, hb1⟩)))
  refine wp_loop_rounds 2 ?_
  rw [rounds_succ]; go_wp2
  rw [rounds_succ]; go_wp2
  go_ret2
  exact Ret.of rfl hb1

set_option maxHeartbeats 1000000 in
theorem quarter_2 (tr ti : Nat) (w : World) (hr : IsW tr (-1)) (hi : IsW ti (0)) : Calls Try.prog 75 #[.complex .f64 tr ti] w (Ret (.tuple #[.int .i64 2, .bool true]) w) := by
  have r1 : F64.order 4607182418800017408 tr = some (compare 1 (-1)) := ord isW_one hr
  have r2 : F64.order 13830554455654793216 tr = some (compare (-1) (-1)) := ord isW_neg hr
  have r3 : F64.order 0 tr = some (compare 0 (-1)) := ord isW_zero hr
  have i1 : F64.order 4607182418800017408 ti = some (compare 1 (0)) := ord isW_one hi
  have i2 : F64.order 13830554455654793216 ti = some (compare (-1) (0)) := ord isW_neg hi
  have i3 : F64.order 0 ti = some (compare 0 (0)) := ord isW_zero hi
  have j0 : ∀ w, (Instr.index 89 (.agg #[.complex .f64 4607182418800017408 0, .complex .f64 0 4607182418800017408, .complex .f64 13830554455654793216 0, .complex .f64 0 13830554455654793216]) (.int .i64 0)).run Try.prog w = .ok (.complex .f64 4607182418800017408 0) w := fun _ => by kernel_rfl
  have j1 : ∀ w, (Instr.index 89 (.agg #[.complex .f64 4607182418800017408 0, .complex .f64 0 4607182418800017408, .complex .f64 13830554455654793216 0, .complex .f64 0 13830554455654793216]) (.int .i64 1)).run Try.prog w = .ok (.complex .f64 0 4607182418800017408) w := fun _ => by kernel_rfl
  have j2 : ∀ w, (Instr.index 89 (.agg #[.complex .f64 4607182418800017408 0, .complex .f64 0 4607182418800017408, .complex .f64 13830554455654793216 0, .complex .f64 0 13830554455654793216]) (.int .i64 2)).run Try.prog w = .ok (.complex .f64 13830554455654793216 0) w := fun _ => by kernel_rfl
  have j3 : ∀ w, (Instr.index 89 (.agg #[.complex .f64 4607182418800017408 0, .complex .f64 0 4607182418800017408, .complex .f64 13830554455654793216 0, .complex .f64 0 13830554455654793216]) (.int .i64 3)).run Try.prog w = .ok (.complex .f64 0 13830554455654793216) w := fun _ => by kernel_rfl
  go_enter Try.func75, Try.ntmps75
  go_wp2_with (first | (go_at_call 60; ((with_reducible refine (turns_calls _).mono ?_); rintro e w1 ⟨rfl, hb1⟩)))
  refine wp_loop_rounds 3 ?_
  rw [rounds_succ]; go_wp2
  rw [rounds_succ]; go_wp2
  rw [rounds_succ]; go_wp2
  go_ret2
  exact Ret.of rfl hb1

set_option maxHeartbeats 1000000 in
theorem quarter_3 (tr ti : Nat) (w : World) (hr : IsW tr (0)) (hi : IsW ti (-1)) : Calls Try.prog 75 #[.complex .f64 tr ti] w (Ret (.tuple #[.int .i64 3, .bool true]) w) := by
  have r1 : F64.order 4607182418800017408 tr = some (compare 1 (0)) := ord isW_one hr
  have r2 : F64.order 13830554455654793216 tr = some (compare (-1) (0)) := ord isW_neg hr
  have r3 : F64.order 0 tr = some (compare 0 (0)) := ord isW_zero hr
  have i1 : F64.order 4607182418800017408 ti = some (compare 1 (-1)) := ord isW_one hi
  have i2 : F64.order 13830554455654793216 ti = some (compare (-1) (-1)) := ord isW_neg hi
  have i3 : F64.order 0 ti = some (compare 0 (-1)) := ord isW_zero hi
  have j0 : ∀ w, (Instr.index 89 (.agg #[.complex .f64 4607182418800017408 0, .complex .f64 0 4607182418800017408, .complex .f64 13830554455654793216 0, .complex .f64 0 13830554455654793216]) (.int .i64 0)).run Try.prog w = .ok (.complex .f64 4607182418800017408 0) w := fun _ => by kernel_rfl
  have j1 : ∀ w, (Instr.index 89 (.agg #[.complex .f64 4607182418800017408 0, .complex .f64 0 4607182418800017408, .complex .f64 13830554455654793216 0, .complex .f64 0 13830554455654793216]) (.int .i64 1)).run Try.prog w = .ok (.complex .f64 0 4607182418800017408) w := fun _ => by kernel_rfl
  have j2 : ∀ w, (Instr.index 89 (.agg #[.complex .f64 4607182418800017408 0, .complex .f64 0 4607182418800017408, .complex .f64 13830554455654793216 0, .complex .f64 0 13830554455654793216]) (.int .i64 2)).run Try.prog w = .ok (.complex .f64 13830554455654793216 0) w := fun _ => by kernel_rfl
  have j3 : ∀ w, (Instr.index 89 (.agg #[.complex .f64 4607182418800017408 0, .complex .f64 0 4607182418800017408, .complex .f64 13830554455654793216 0, .complex .f64 0 13830554455654793216]) (.int .i64 3)).run Try.prog w = .ok (.complex .f64 0 13830554455654793216) w := fun _ => by kernel_rfl
  go_enter Try.func75, Try.ntmps75
  go_wp2_with (first | (go_at_call 60; ((with_reducible refine (turns_calls _).mono ?_); rintro e w1 ⟨rfl, hb1⟩)))
  refine wp_loop_rounds 4 ?_
  rw [rounds_succ]; go_wp2
  rw [rounds_succ]; go_wp2
  rw [rounds_succ]; go_wp2
  rw [rounds_succ]; go_wp2
  go_ret2
  exact Ret.of rfl hb1

theorem quarter_calls (k : Int) (tr ti : Nat) (w : World) (h0 : 0 ≤ k) (h3 : k ≤ 3) (hr : IsW tr (qre k)) (hi : IsW ti (qim k)) : Calls Try.prog 75 #[.complex .f64 tr ti] w (Ret (.tuple #[.int .i64 k, .bool true]) w) := by
  have : k = 0 ∨ k = 1 ∨ k = 2 ∨ k = 3 := by omega
  rcases this with rfl | rfl | rfl | rfl
  · exact quarter_0 tr ti w hr hi
  · exact quarter_1 tr ti w hr hi
  · exact quarter_2 tr ti w hr hi
  · exact quarter_3 tr ti w hr hi

theorem fl_far1 : fl (-1099511627776) = 14010698440749613056 := by kernel_rfl
theorem fl_far2 : fl 1099511627776 = 4787326403894837248 := by kernel_rfl
theorem isW_far1 : IsW 14010698440749613056 (-1099511627776) := fl_far1 ▸ isW_fl (-1099511627776) (by omega)
theorem isW_far2 : IsW 4787326403894837248 1099511627776 := fl_far2 ▸ isW_fl 1099511627776 (by omega)
/-- a float that stands for a whole number -/
theorem toInt_isW {b : Nat} {n : Int} (h : IsW b n) : (FloatKind.f64.decode b).toInt .zero = some n := toInt_whole h
theorem toIntVal {b : Nat} {n : Int} (h : IsW b n) (h1 : -9223372036854775808 ≤ n) (h2 : n ≤ 9223372036854775807) : floatToIntVal .f64 b .i64 = some n := by
  unfold floatToIntVal
  rw [toInt_isW h]
  show (if IntKind.i64.min ≤ n ∧ n ≤ IntKind.i64.max then some n else none) = some n
  rw [if_pos ⟨by show (-9223372036854775808 : Int) ≤ n; exact h1, by show n ≤ (9223372036854775807 : Int); exact h2⟩]
theorem whole_calls (b : Nat) (n : Int) (w : World) (h : IsW b n) (h1 : -1099511627776 ≤ n) (h2 : n ≤ 1099511627776) : Calls Try.prog 84 #[.float .f64 b] w (Ret (.bool true) w) := by
  have r1 : F64.order b 14010698440749613056 = some (compare n (-1099511627776)) := ord h isW_far1
  have r2 : F64.order b 4787326403894837248 = some (compare n 1099511627776) := ord h isW_far2
  have r3 : F64.order b (floatOfInt .f64 n) = some .eq := by rw [show (some Ordering.eq) = some (compare n n) by simp]; exact ord h (isW_fl n (by omega))
  have c1 : compare n (-1099511627776) = .gt ∨ compare n (-1099511627776) = .eq := by rw [Int.compare_eq_gt, Int.compare_eq_eq]; omega
  have c2 : compare n 1099511627776 = .lt ∨ compare n 1099511627776 = .eq := by rw [Int.compare_eq_lt, Int.compare_eq_eq]; omega
  have hcv : ∀ w, (convert 85 3 (.float .f64 b)).run Try.prog w = .ok (.int .i64 n) w := fun w => run_convert_float_int w _ _ _ _ _ _ (by rw [Try.underlying85]; rfl) Try.underlying3 (toIntVal h (by omega) (by omega))
  have hcw : ∀ w, (convert 3 85 (.int .i64 n)).run Try.prog w = .ok (.float .f64 (floatOfInt .f64 n)) w := fun w => run_convert_int_float w _ _ _ _ _ (by rw [Try.underlying3]; rfl) Try.underlying85
  have hn := Lib.hid h
  rcases c1 with c1 | c1 <;> rcases c2 with c2 | c2 <;> rw [c1] at r1 <;> rw [c2] at r2 <;> clear c1 c2
  all_goals
   go_enter Try.func84, Try.ntmps84
   go_wp2
   go_ret
   exact Ret.of rfl (same _)

end Go.Proofs.Ytfdehecekghlmaa


set_option linter.unusedVariables false
set_option linter.unusedSimpArgs false
namespace Go.Proofs.Ytfdehecekghlmaa
open Go.RowKit Go.Viv
attribute [local go_sem] run_store_complex run_store_float

/-- a number of whole parts comes back, and nothing that was there has changed -/
def RetZ (X Y : Int) (w : World) (e : Ending) (w' : World) : Prop := ∃ r i : Nat, e = .returned (.complex .f64 r i) ∧ IsW r X ∧ IsW i Y ∧ Below w.heap.size w w'

abbrev isoV (tr ti : Nat) (f : Bool) (mr mi : Nat) : Value := .agg #[.complex .f64 tr ti, .bool f, .complex .f64 mr mi]

theorem add_some {x y : Nat} {a b : Int} (hx : IsW x a) (hy : IsW y b) (h : (a + b).natAbs ≤ 9007199254740992) : ∃ r, floatBits .add .f64 x y = some r ∧ IsW r (a + b) := isW_add hx hy h
theorem sub_some {x y : Nat} {a b : Int} (hx : IsW x a) (hy : IsW y b) (h : (a - b).natAbs ≤ 9007199254740992) : ∃ r, floatBits .sub .f64 x y = some r ∧ IsW r (a - b) := isW_sub hx hy h
theorem mul_some {x y : Nat} {a b : Int} (hx : IsW x a) (hy : IsW y b) (h : (a * b).natAbs ≤ 9007199254740992) : ∃ r, floatBits .mul .f64 x y = some r ∧ IsW r (a * b) := isW_mul hx hy h

theorem whole_any (b : Nat) (n : Int) (w : World) (h : IsW b n) (h1 : -9007199254740992 ≤ n) (h2 : n ≤ 9007199254740992) : Calls Try.prog 84 #[.float .f64 b] w (Ret (.bool (nearI n)) w) := by
  by_cases hin : -1099511627776 ≤ n ∧ n ≤ 1099511627776
  · rw [show nearI n = true by unfold nearI; simpa using hin]
    exact whole_calls b n w h hin.1 hin.2
  · rw [show nearI n = false by unfold nearI; simpa using hin]
    have r1 : F64.order b 14010698440749613056 = some (compare n (-1099511627776)) := ord h isW_far1
    have r2 : F64.order b 4787326403894837248 = some (compare n 1099511627776) := ord h isW_far2
    by_cases hlo : n < -1099511627776
    · rw [Int.compare_eq_lt.2 hlo] at r1
      clear r2
      go_enter Try.func84, Try.ntmps84
      go_wp2
      go_ret
      exact Ret.of rfl (same _)
    · have hgt : 1099511627776 < n := by omega
      rw [Int.compare_eq_gt.2 hgt] at r2
      rw [Int.compare_eq_gt.2 (by omega)] at r1
      go_enter Try.func84, Try.ntmps84
      go_wp2
      go_ret
      exact Ret.of rfl (same _)

set_option maxHeartbeats 1000000 in
theorem clean_calls (r i : Nat) (X Y : Int) (w : World) (hr : IsW r X) (hi : IsW i Y) (h1 : X.natAbs ≤ 9007199254740992) (h2 : Y.natAbs ≤ 9007199254740992) :
    Calls Try.prog 83 #[.complex .f64 r i] w (RetZ X Y w) := by
  obtain ⟨a, ha, wa⟩ := add_some hr isW_zero (by rw [Int.add_zero]; exact h1)
  obtain ⟨b, hb, wb⟩ := add_some hi isW_zero (by rw [Int.add_zero]; exact h2)
  rw [Int.add_zero] at wa wb
  have f1 : ∀ w, (binOp .add 85 (.float .f64 r) (.float .f64 0)).run Try.prog w = .ok (.float .f64 a) w := fun w => run_float_arith w .add _ .f64 r 0 a ha
  have f2 : ∀ w, (binOp .add 85 (.float .f64 i) (.float .f64 0)).run Try.prog w = .ok (.float .f64 b) w := fun w => run_float_arith w .add _ .f64 i 0 b hb
  clear ha hb
  go_enter Try.func83, Try.ntmps83
  go_wp2
  go_ret
  exact ⟨_, _, rfl, wa, wb, same _⟩

set_option maxHeartbeats 1000000 in
theorem conj_calls (r i : Nat) (X Y : Int) (w : World) (hr : IsW r X) (hi : IsW i Y) :
    Calls Try.prog 67 #[.complex .f64 r i] w (RetZ X (-Y) w) := by
  have f2 : ∀ w, (Op.unary .neg (.float .f64 i)).run Try.prog w = .ok (.float .f64 (i ^^^ 2 ^ 63)) w := fun _ => rfl
  obtain ⟨j, hj⟩ : ∃ j, i ^^^ 2 ^ 63 = j := ⟨_, rfl⟩
  rw [hj] at f2
  have wj : IsW j (-Y) := hj ▸ isW_opp hi
  clear hj
  go_enter Try.func67, Try.ntmps67
  go_wp2
  go_ret
  exact ⟨_, _, rfl, hr, wj, same _⟩

/-- the product of two numbers of whole parts -/
theorem cmul_some {a b c d : Nat} {A B C D : Int} (ha : IsW a A) (hb : IsW b B) (hc : IsW c C) (hd : IsW d D) (hA : -1 ≤ A ∧ A ≤ 1) (hB : -1 ≤ B ∧ B ≤ 1) (hC : C.natAbs ≤ 4398046511104) (hD : D.natAbs ≤ 4398046511104) :
    ∃ r i, cMulBits a b c d = some (r, i) ∧ IsW r (A * C - B * D) ∧ IsW i (A * D + B * C) := by
  have key : ∀ P Q : Int, (-1 ≤ P ∧ P ≤ 1) → Q.natAbs ≤ 4398046511104 → (P * Q).natAbs ≤ 4398046511104 := by
    intro P Q hP hQ
    have : P = -1 ∨ P = 0 ∨ P = 1 := by omega
    rcases this with rfl | rfl | rfl <;> simp <;> omega
  have k1 := key A C hA hC; have k2 := key B D hB hD; have k3 := key A D hA hD; have k4 := key B C hB hC
  obtain ⟨x1, e1, w1⟩ := mul_some ha hc (by omega)
  obtain ⟨x2, e2, w2⟩ := mul_some hb hd (by omega)
  obtain ⟨x3, e3, w3⟩ := sub_some w1 w2 (by omega)
  obtain ⟨x4, e4, w4⟩ := mul_some ha hd (by omega)
  obtain ⟨x5, e5, w5⟩ := mul_some hb hc (by omega)
  obtain ⟨x6, e6, w6⟩ := add_some w4 w5 (by omega)
  exact ⟨x3, x6, by unfold cMulBits; simp [e1, e2, e3, e4, e5, e6], w3, w6⟩
theorem csum_some {a b c d : Nat} {A B C D : Int} (ha : IsW a A) (hb : IsW b B) (hc : IsW c C) (hd : IsW d D) (h1 : (A + C).natAbs ≤ 9007199254740992) (h2 : (B + D).natAbs ≤ 9007199254740992) :
    ∃ r i, cSumBits .add .f64 a b c d = some (r, i) ∧ IsW r (A + C) ∧ IsW i (B + D) := by
  obtain ⟨x1, e1, w1⟩ := add_some ha hc h1
  obtain ⟨x2, e2, w2⟩ := add_some hb hd h2
  exact ⟨x1, x2, by unfold cSumBits; simp [e1, e2], w1, w2⟩

/-- a map in whole numbers: turned by the k-th quarter, flipped ahead or not, moved -/
structure IsIso (tr ti mr mi : Nat) (k X Y : Int) : Prop where
  k0 : 0 ≤ k
  k3 : k ≤ 3
  tr : IsW tr (qre k)
  ti : IsW ti (qim k)
  mr : IsW mr X
  mi : IsW mi Y

theorem q_bounds (k : Int) : (-1 ≤ qre k ∧ qre k ≤ 1) ∧ (-1 ≤ qim k ∧ qim k ≤ 1) := by
  unfold qre qim; (repeat' split) <;> omega

/-- the place that a linear part takes (x, y) to -/
def linX (k : Int) (f : Bool) (x y : Int) : Int := qre k * x - qim k * (if f = true then -y else y)
def linY (k : Int) (f : Bool) (x y : Int) : Int := qre k * (if f = true then -y else y) + qim k * x

set_option maxHeartbeats 1000000 in
theorem does_true (tr ti mr mi zr zi : Nat) (k X Y x y : Int) (w : World) (h : IsIso tr ti mr mi k X Y) (hx : IsW zr x) (hy : IsW zi y) (b1 : X.natAbs ≤ 4398046511104) (b2 : Y.natAbs ≤ 4398046511104) (b3 : x.natAbs ≤ 4398046511104) (b4 : y.natAbs ≤ 4398046511104) :
    Calls Try.prog 63 #[isoV tr ti true mr mi, .complex .f64 zr zi] w (RetZ (linX k true x y + X) (linY k true x y + Y) w) := by
  obtain ⟨qa, qb⟩ := q_bounds k
  have K1 : (w.alloc (.cells #[.complex .f64 tr ti, .bool true, .complex .f64 mr mi] 41)).heap[w.heap.size]? = some (.cells #[.complex .f64 tr ti, .bool true, .complex .f64 mr mi] 41 (0, 0)) := (bk_new _ _)
  have hBw : Below w.heap.size w (w.alloc (.cells #[.complex .f64 tr ti, .bool true, .complex .f64 mr mi] 41)) := boxed _ _
  go_enter Try.func63, Try.ntmps63
  go_wp2_with (first | fail)
  generalize hW0 : (w.alloc (.cells #[.complex .f64 tr ti, .bool true, .complex .f64 mr mi] 41)) = W0 at *
  clear hW0
  have hB := same W0
  have K10 := K1
  refine (conj_calls _ _ _ _ _ hx hy).mono ?_
  rintro e w1 ⟨zr', zi', rfl, hx', hy', hb1⟩
  replace hB := next hB hb1; replace K1 := bk_below K1 hb1; have hcK1 := bk_cell K1; have hfK1 := bk_free K1; have hlK1 := bk_lt K1
  obtain ⟨pr, pi, ep, wp, wq⟩ := cmul_some h.tr h.ti hx' hy' qa qb b3 (by omega)
  have f1 : ∀ w, (binOp .mul 39 (.complex .f64 tr ti) (.complex .f64 zr' zi')).run Try.prog w = .ok (.complex .f64 pr pi) w := fun w => run_complex_mul w _ _ _ _ _ _ _ ep
  have bnd : (qre k * x - qim k * (-y)).natAbs ≤ 9007199254740992 - 4398046511104 ∧ (qre k * (-y) + qim k * x).natAbs ≤ 9007199254740992 - 4398046511104 := by
    have key : ∀ P Q : Int, (-1 ≤ P ∧ P ≤ 1) → Q.natAbs ≤ 4398046511104 → (P * Q).natAbs ≤ 4398046511104 := by
      intro P Q hP hQ
      have : P = -1 ∨ P = 0 ∨ P = 1 := by omega
      rcases this with rfl | rfl | rfl <;> simp <;> omega
    have k1 := key (qre k) x qa b3; have k2 := key (qim k) (-y) qb (by omega); have k3 := key (qre k) (-y) qa (by omega); have k4 := key (qim k) x qb b3
    omega
  obtain ⟨sr, si, es, ws, wt⟩ := csum_some wp wq h.mr h.mi (by omega) (by omega)
  have f2 : ∀ w, (binOp .add 39 (.complex .f64 pr pi) (.complex .f64 mr mi)).run Try.prog w = .ok (.complex .f64 sr si) w := fun w => run_complex_sum w .add (.inl rfl) _ _ _ _ _ _ _ _ es
  clear ep es bnd
  go_wp2_with (first | fail)
  go_ret
  exact ⟨_, _, rfl, by unfold linX; simpa using ws, by unfold linY; simpa using wt, (by repeat (with_reducible (first | exact hBw.trans (hB.mono hBw.size) | refine Below.setCell ?_ (by have h1_ := hBw.size; have h2_ := hB.size; (try simp) <;> omega) _ | refine Below.drew ?_ | refine Below.alloc ?_ (by have h1_ := hBw.size; have h2_ := hB.size; (try simp) <;> omega) _)))⟩

set_option maxHeartbeats 1000000 in
theorem does_false (tr ti mr mi zr zi : Nat) (k X Y x y : Int) (w : World) (h : IsIso tr ti mr mi k X Y) (hx : IsW zr x) (hy : IsW zi y) (b1 : X.natAbs ≤ 4398046511104) (b2 : Y.natAbs ≤ 4398046511104) (b3 : x.natAbs ≤ 4398046511104) (b4 : y.natAbs ≤ 4398046511104) :
    Calls Try.prog 63 #[isoV tr ti false mr mi, .complex .f64 zr zi] w (RetZ (linX k false x y + X) (linY k false x y + Y) w) := by
  obtain ⟨qa, qb⟩ := q_bounds k
  obtain ⟨pr, pi, ep, wp, wq⟩ := cmul_some h.tr h.ti hx hy qa qb b3 b4
  have f1 : ∀ w, (binOp .mul 39 (.complex .f64 tr ti) (.complex .f64 zr zi)).run Try.prog w = .ok (.complex .f64 pr pi) w := fun w => run_complex_mul w _ _ _ _ _ _ _ ep
  have bnd : (qre k * x - qim k * y).natAbs ≤ 9007199254740992 - 4398046511104 ∧ (qre k * y + qim k * x).natAbs ≤ 9007199254740992 - 4398046511104 := by
    have key : ∀ P Q : Int, (-1 ≤ P ∧ P ≤ 1) → Q.natAbs ≤ 4398046511104 → (P * Q).natAbs ≤ 4398046511104 := by
      intro P Q hP hQ
      have : P = -1 ∨ P = 0 ∨ P = 1 := by omega
      rcases this with rfl | rfl | rfl <;> simp <;> omega
    have k1 := key (qre k) x qa b3; have k2 := key (qim k) y qb (by omega); have k3 := key (qre k) y qa (by omega); have k4 := key (qim k) x qb b3
    omega
  obtain ⟨sr, si, es, ws, wt⟩ := csum_some wp wq h.mr h.mi (by omega) (by omega)
  have f2 : ∀ w, (binOp .add 39 (.complex .f64 pr pi) (.complex .f64 mr mi)).run Try.prog w = .ok (.complex .f64 sr si) w := fun w => run_complex_sum w .add (.inl rfl) _ _ _ _ _ _ _ _ es
  clear ep es bnd
  go_enter Try.func63, Try.ntmps63
  go_wp2_with (first | fail)
  go_ret
  exact ⟨_, _, rfl, by unfold linX; simpa using ws, by unfold linY; simpa using wt, boxed _ _⟩

theorem does_calls (tr ti mr mi zr zi : Nat) (f : Bool) (k X Y x y : Int) (w : World) (h : IsIso tr ti mr mi k X Y) (hx : IsW zr x) (hy : IsW zi y) (b1 : X.natAbs ≤ 4398046511104) (b2 : Y.natAbs ≤ 4398046511104) (b3 : x.natAbs ≤ 4398046511104) (b4 : y.natAbs ≤ 4398046511104) :
    Calls Try.prog 63 #[isoV tr ti f mr mi, .complex .f64 zr zi] w (RetZ (linX k f x y + X) (linY k f x y + Y) w) := by
  cases f
  · exact does_false tr ti mr mi zr zi k X Y x y w h hx hy b1 b2 b3 b4
  · exact does_true tr ti mr mi zr zi k X Y x y w h hx hy b1 b2 b3 b4

end Go.Proofs.Ytfdehecekghlmaa


set_option linter.unusedVariables false
set_option linter.unusedSimpArgs false
namespace Go.Proofs.Ytfdehecekghlmaa
open Go.RowKit Go.Viv
attribute [local go_sem] run_store_complex run_store_float

theorem lin_bounds {k x y : Int} {f : Bool} {B : Nat} (hx : x.natAbs ≤ B) (hy : y.natAbs ≤ B) : (linX k f x y).natAbs ≤ B ∧ (linY k f x y).natAbs ≤ B := by
  unfold linX linY qre qim
  cases f <;> (repeat' split) <;> simp <;> omega

set_option maxHeartbeats 1000000 in
theorem Valid_calls (tr ti mr mi : Nat) (f : Bool) (k X Y : Int) (w : World) (h : IsIso tr ti mr mi k X Y) (b1 : X.natAbs ≤ 9007199254740992) (b2 : Y.natAbs ≤ 9007199254740992) :
    Calls Try.prog 61 #[isoV tr ti f mr mi] w (Ret (.bool (nearI X && nearI Y)) w) := by
  cases e1 : nearI X <;> have E1 := Lib.hid e1 <;> clear e1
  all_goals
    have K1 : (w.alloc (.cells #[.complex .f64 tr ti, .bool f, .complex .f64 mr mi] 41)).heap[w.heap.size]? = some (.cells #[.complex .f64 tr ti, .bool f, .complex .f64 mr mi] 41 (0, 0)) := (bk_new _ _)
    have hBw : Below w.heap.size w (w.alloc (.cells #[.complex .f64 tr ti, .bool f, .complex .f64 mr mi] 41)) := boxed _ _
    go_enter Try.func61, Try.ntmps61
    go_wp2_with (first | fail)
    generalize hW0 : (w.alloc (.cells #[.complex .f64 tr ti, .bool f, .complex .f64 mr mi] 41)) = W0 at *
    clear hW0
    have hB := same W0
    have K10 := K1
    refine (quarter_calls _ _ _ _ h.k0 h.k3 h.tr h.ti).mono ?_
    rintro e w1 ⟨rfl, hb1⟩
    replace hB := next hB hb1; replace K1 := bk_below K1 hb1; have hcK1 := bk_cell K1; have hfK1 := bk_free K1; have hlK1 := bk_lt K1
    go_wp2_with (first | fail)
    refine (whole_any _ X _ h.mr (by omega) (by omega)).mono ?_
    rintro e w1 ⟨rfl, hb1⟩
    rw [E1.out]
    replace hB := next hB hb1; replace K1 := bk_below K1 hb1; have hcK1 := bk_cell K1; have hfK1 := bk_free K1; have hlK1 := bk_lt K1
  · go_wp2_with (first | fail)
    go_ret
    exact Ret.of rfl (by repeat (with_reducible (first | exact hBw.trans (hB.mono hBw.size) | refine Below.setCell ?_ (by have h1_ := hBw.size; have h2_ := hB.size; (try simp) <;> omega) _ | refine Below.drew ?_ | refine Below.alloc ?_ (by have h1_ := hBw.size; have h2_ := hB.size; (try simp) <;> omega) _)))
  · go_wp2_with (first | fail)
    refine (whole_any _ Y _ h.mi (by omega) (by omega)).mono ?_
    rintro e w1 ⟨rfl, hb1⟩
    replace hB := next hB hb1; replace K1 := bk_below K1 hb1; have hcK1 := bk_cell K1; have hfK1 := bk_free K1; have hlK1 := bk_lt K1
    go_wp2_with (first | fail)
    all_goals
      go_ret
      exact Ret.of (by simp [*]) (by repeat (with_reducible (first | exact hBw.trans (hB.mono hBw.size) | refine Below.setCell ?_ (by have h1_ := hBw.size; have h2_ := hB.size; (try simp) <;> omega) _ | refine Below.drew ?_ | refine Below.alloc ?_ (by have h1_ := hBw.size; have h2_ := hB.size; (try simp) <;> omega) _)))

/-- a map comes back, and nothing that was there has changed -/
def RetI (k : Int) (f : Bool) (X Y : Int) (w : World) (e : Ending) (w' : World) : Prop := ∃ tr ti mr mi : Nat, e = .returned (isoV tr ti f mr mi) ∧ IsIso tr ti mr mi k X Y ∧ Below w.heap.size w w'

set_option maxHeartbeats 1000000 in
theorem made_calls (tr ti mr mi : Nat) (f : Bool) (k X Y : Int) (w : World) (h : IsIso tr ti mr mi k X Y) (b1 : X.natAbs ≤ 9007199254740992) (b2 : Y.natAbs ≤ 9007199254740992) :
    Calls Try.prog 59 #[.complex .f64 tr ti, .bool f, .complex .f64 mr mi] w (RetI k f X Y w) := by
  obtain ⟨qa, qb⟩ := q_bounds k
  have KR : (w.alloc (.cells #[.complex .f64 0 0, .bool false, .complex .f64 0 0] 41)).heap[w.heap.size]? = some (.cells #[.complex .f64 0 0, .bool false, .complex .f64 0 0] 41 (0, 0)) := (bk_new _ _)
  have hBw : Below w.heap.size w (w.alloc (.cells #[.complex .f64 0 0, .bool false, .complex .f64 0 0] 41)) := boxed _ _
  go_enter Try.func59, Try.ntmps59
  go_wp2_with (first | fail)
  generalize hW0 : (w.alloc (.cells #[.complex .f64 0 0, .bool false, .complex .f64 0 0] 41)) = W0 at *
  clear hW0
  have hB := same W0
  have KR0 := KR
  refine (clean_calls _ _ _ _ _ h.tr h.ti (by omega) (by omega)).mono ?_
  rintro e w1 ⟨tr', ti', rfl, wr, wi, hb1⟩
  replace hB := next hB hb1; replace KR := bk_below KR hb1; have hcKR := bk_cell KR; have hfKR := bk_free KR; have hlKR := bk_lt KR
  go_wp2_with (first | fail)
  refine (clean_calls _ _ _ _ _ h.mr h.mi b1 b2).mono ?_
  rintro e w1 ⟨mr', mi', rfl, vr, vi, hb1⟩
  replace hB := next hB hb1; replace KR := bk_below KR hb1; have hcKR := bk_cell KR; have hfKR := bk_free KR; have hlKR := bk_lt KR
  go_wp2_with (first | fail)
  refine end_c (w.heap.size) 41 rfl rfl rfl Try.underlying41 rfl ?_
  apply Exists.intro
  refine ⟨(by repeat (with_reducible (first | exact KR | apply bk_set | refine bk_drew ?_ | refine bk_drewN ?_ _ | refine bk_alloc ?_ _ | refine bk_far ?_ (by simp; try omega) _))), by kernel_rfl, ?_⟩
  exact ⟨tr', ti', mr', mi', rfl, ⟨h.k0, h.k3, wr, wi, vr, vi⟩, (by repeat (with_reducible (first | exact hBw.trans (hB.mono hBw.size) | refine Below.setCell ?_ (by have h1_ := hBw.size; have h2_ := hB.size; (try simp) <;> omega) _ | refine Below.drew ?_ | refine Below.alloc ?_ (by have h1_ := hBw.size; have h2_ := hB.size; (try simp) <;> omega) _)))⟩

set_option maxHeartbeats 1000000 in
theorem inear_calls (x y : Int) (w : World) : Calls Try.prog 62 #[pt x y] w (Ret (.bool (nearI x && nearI y)) w) := by
  obtain ⟨X, hX⟩ : ∃ X, (nearI x && nearI y) = X := ⟨_, rfl⟩
  rw [hX]
  have HX := Lib.hid hX; clear hX
  go_enter Try.func62, Try.ntmps62
  go_wp2
  all_goals
    go_ret
    refine Ret.of (congrArg Value.bool ?_) (by repeat (first | exact Below.refl _ _ | exact boxed _ _ | refine Below.drew ?_ | refine Below.setCell ?_ (by simp) _ | refine Below.alloc ?_ (by simp) _))
    rw [← HX.out]
    clear HX
    unfold nearI
    rw [Bool.eq_iff_iff]
    simp
    try omega

theorem nearI_abs {x : Int} (h : nearI x = true) : x.natAbs ≤ 1099511627776 := by have := nearI_iff.1 h; omega

set_option maxHeartbeats 1000000 in
theorem Which_calls (tr ti mr mi : Nat) (f : Bool) (k X Y : Int) (w : World) (h : IsIso tr ti mr mi k X Y) (n1 : nearI X = true) (n2 : nearI Y = true) :
    Calls Try.prog 45 #[isoV tr ti f mr mi] w (Ret (.tuple #[.int .i64 (if f = true then k + 4 else k), .int .i64 0]) w) := by
  have b1 := nearI_abs n1; have b2 := nearI_abs n2
  have k0 := h.k0; have k3 := h.k3
  have HN : Hid ((nearI X && nearI Y) = true) := by show _ = _; rw [n1, n2]; rfl
  clear n1 n2
  cases f
  · have K1 : (w.alloc (.cells #[.complex .f64 tr ti, .bool false, .complex .f64 mr mi] 41)).heap[w.heap.size]? = some (.cells #[.complex .f64 tr ti, .bool false, .complex .f64 mr mi] 41 (0, 0)) := (bk_new _ _)
    have hBw : Below w.heap.size w (w.alloc (.cells #[.complex .f64 tr ti, .bool false, .complex .f64 mr mi] 41)) := boxed _ _
    go_enter Try.func45, Try.ntmps45
    go_wp2_with (first | fail)
    generalize hW0 : (w.alloc (.cells #[.complex .f64 tr ti, .bool false, .complex .f64 mr mi] 41)) = W0 at *
    clear hW0
    have hB := same W0
    have K10 := K1
    refine (Valid_calls _ _ _ _ _ _ _ _ _ h (by omega) (by omega)).mono ?_
    rintro e w1 ⟨rfl, hb1⟩
    rw [HN.out]
    replace hB := next hB hb1; replace K1 := bk_below K1 hb1; have hcK1 := bk_cell K1; have hfK1 := bk_free K1; have hlK1 := bk_lt K1
    go_wp2_with (first | fail)
    refine (quarter_calls _ _ _ _ h.k0 h.k3 h.tr h.ti).mono ?_
    rintro e w1 ⟨rfl, hb1⟩
    replace hB := next hB hb1; replace K1 := bk_below K1 hb1; have hcK1 := bk_cell K1; have hfK1 := bk_free K1; have hlK1 := bk_lt K1
    go_wp2_with (first | fail)
    go_ret2
    exact Ret.of rfl (by repeat (with_reducible (first | exact hBw.trans (hB.mono hBw.size) | refine Below.setCell ?_ (by have h1_ := hBw.size; have h2_ := hB.size; (try simp) <;> omega) _ | refine Below.drew ?_ | refine Below.alloc ?_ (by have h1_ := hBw.size; have h2_ := hB.size; (try simp) <;> omega) _)))
  · have K1 : (w.alloc (.cells #[.complex .f64 tr ti, .bool true, .complex .f64 mr mi] 41)).heap[w.heap.size]? = some (.cells #[.complex .f64 tr ti, .bool true, .complex .f64 mr mi] 41 (0, 0)) := (bk_new _ _)
    have hBw : Below w.heap.size w (w.alloc (.cells #[.complex .f64 tr ti, .bool true, .complex .f64 mr mi] 41)) := boxed _ _
    go_enter Try.func45, Try.ntmps45
    go_wp2_with (first | fail)
    generalize hW0 : (w.alloc (.cells #[.complex .f64 tr ti, .bool true, .complex .f64 mr mi] 41)) = W0 at *
    clear hW0
    have hB := same W0
    have K10 := K1
    refine (Valid_calls _ _ _ _ _ _ _ _ _ h (by omega) (by omega)).mono ?_
    rintro e w1 ⟨rfl, hb1⟩
    rw [HN.out]
    replace hB := next hB hb1; replace K1 := bk_below K1 hb1; have hcK1 := bk_cell K1; have hfK1 := bk_free K1; have hlK1 := bk_lt K1
    go_wp2_with (first | fail)
    refine (quarter_calls _ _ _ _ h.k0 h.k3 h.tr h.ti).mono ?_
    rintro e w1 ⟨rfl, hb1⟩
    replace hB := next hB hb1; replace K1 := bk_below K1 hb1; have hcK1 := bk_cell K1; have hfK1 := bk_free K1; have hlK1 := bk_lt K1
    go_wp2_with (first | fail)
    go_ret2
    exact Ret.of rfl (by repeat (with_reducible (first | exact hBw.trans (hB.mono hBw.size) | refine Below.setCell ?_ (by have h1_ := hBw.size; have h2_ := hB.size; (try simp) <;> omega) _ | refine Below.drew ?_ | refine Below.alloc ?_ (by have h1_ := hBw.size; have h2_ := hB.size; (try simp) <;> omega) _)))

set_option maxHeartbeats 2000000 in
theorem At_far (tr ti mr mi : Nat) (f : Bool) (k X Y x y : Int) (w : World) (h : IsIso tr ti mr mi k X Y) (n1 : nearI X = true) (n2 : nearI Y = true) (hp : (nearI x && nearI y) = false) :
    Calls Try.prog 29 #[isoV tr ti f mr mi, pt x y] w (Ret (.tuple #[pt 0 0, .int .i64 5]) w) := by
  have b1 := nearI_abs n1; have b2 := nearI_abs n2
  have HN : Hid ((nearI X && nearI Y) = true) := by show _ = _; rw [n1, n2]; rfl
  clear n1 n2
  have HP := Lib.hid hp; clear hp
  have K1 : (((w.alloc (.cells #[.complex .f64 tr ti, .bool f, .complex .f64 mr mi] 41)).alloc (.cells #[.int .i64 x, .int .i64 y] 25)).alloc (.cells #[.int .i64 0, .int .i64 0] 25)).heap[w.heap.size]? = some (.cells #[.complex .f64 tr ti, .bool f, .complex .f64 mr mi] 41 (0, 0)) := (bk_alloc (bk_alloc (bk_new _ _) _) _)
  have K2 : (((w.alloc (.cells #[.complex .f64 tr ti, .bool f, .complex .f64 mr mi] 41)).alloc (.cells #[.int .i64 x, .int .i64 y] 25)).alloc (.cells #[.int .i64 0, .int .i64 0] 25)).heap[w.heap.size + 1]? = some (.cells #[.int .i64 x, .int .i64 y] 25 (0, 0)) := (bk_alloc (by have := bk_new (w.alloc (.cells #[.complex .f64 tr ti, .bool f, .complex .f64 mr mi] 41)) (.cells #[.int .i64 x, .int .i64 y] 25); simpa only [World.size_alloc] using this) _)
  have KR : (((w.alloc (.cells #[.complex .f64 tr ti, .bool f, .complex .f64 mr mi] 41)).alloc (.cells #[.int .i64 x, .int .i64 y] 25)).alloc (.cells #[.int .i64 0, .int .i64 0] 25)).heap[w.heap.size + 1 + 1]? = some (.cells #[.int .i64 0, .int .i64 0] 25 (0, 0)) := (by have := bk_new ((w.alloc (.cells #[.complex .f64 tr ti, .bool f, .complex .f64 mr mi] 41)).alloc (.cells #[.int .i64 x, .int .i64 y] 25)) (.cells #[.int .i64 0, .int .i64 0] 25); simpa only [World.size_alloc] using this)
  have hBw : Below w.heap.size w (((w.alloc (.cells #[.complex .f64 tr ti, .bool f, .complex .f64 mr mi] 41)).alloc (.cells #[.int .i64 x, .int .i64 y] 25)).alloc (.cells #[.int .i64 0, .int .i64 0] 25)) := ((boxed _ _).alloc (by simp) _).alloc (by simp; try omega) _
  go_enter Try.func29, Try.ntmps29
  go_wp2_with (first | fail)
  generalize hW0 : (((w.alloc (.cells #[.complex .f64 tr ti, .bool f, .complex .f64 mr mi] 41)).alloc (.cells #[.int .i64 x, .int .i64 y] 25)).alloc (.cells #[.int .i64 0, .int .i64 0] 25)) = W0 at *
  clear hW0
  have hB := same W0
  have K10 := K1
  have K20 := K2
  have KR0 := KR
  refine (Valid_calls _ _ _ _ _ _ _ _ _ h (by omega) (by omega)).mono ?_
  rintro e w1 ⟨rfl, hb1⟩
  rw [HN.out]
  replace hB := next hB hb1; replace K1 := bk_below K1 hb1; have hcK1 := bk_cell K1; have hfK1 := bk_free K1; have hlK1 := bk_lt K1; replace K2 := bk_below K2 hb1; have hcK2 := bk_cell K2; have hfK2 := bk_free K2; have hlK2 := bk_lt K2; replace KR := bk_below KR hb1; have hcKR := bk_cell KR; have hfKR := bk_free KR; have hlKR := bk_lt KR
  go_wp2_with (first | fail)
  refine (inear_calls _ _ _).mono ?_
  rintro e w1 ⟨rfl, hb1⟩
  rw [HP.out]
  replace hB := next hB hb1; replace K1 := bk_below K1 hb1; have hcK1 := bk_cell K1; have hfK1 := bk_free K1; have hlK1 := bk_lt K1; replace K2 := bk_below K2 hb1; have hcK2 := bk_cell K2; have hfK2 := bk_free K2; have hlK2 := bk_lt K2; replace KR := bk_below KR hb1; have hcKR := bk_cell KR; have hfKR := bk_free KR; have hlKR := bk_lt KR
  go_wp2_with (first | fail)
  refine end_ct (w.heap.size + 1 + 1) 25 rfl rfl rfl Try.underlying25 rfl ?_
  apply Exists.intro
  refine ⟨(by repeat (with_reducible (first | exact KR | apply bk_set | refine bk_drew ?_ | refine bk_drewN ?_ _ | refine bk_alloc ?_ _ | refine bk_far ?_ (by simp; try omega) _))), by kernel_rfl, ?_⟩
  exact Ret.of rfl (by repeat (with_reducible (first | exact hBw.trans (hB.mono hBw.size) | refine Below.setCell ?_ (by have h1_ := hBw.size; have h2_ := hB.size; (try simp) <;> omega) _ | refine Below.drew ?_ | refine Below.alloc ?_ (by have h1_ := hBw.size; have h2_ := hB.size; (try simp) <;> omega) _)))

set_option maxHeartbeats 2000000 in
theorem At_out (tr ti mr mi : Nat) (f : Bool) (k X Y x y : Int) (w : World) (h : IsIso tr ti mr mi k X Y) (n1 : nearI X = true) (n2 : nearI Y = true) (hp1 : nearI x = true) (hp2 : nearI y = true) (hq : (nearI (linX k f x y + X) && nearI (linY k f x y + Y)) = false) :
    Calls Try.prog 29 #[isoV tr ti f mr mi, pt x y] w (Ret (.tuple #[pt 0 0, .int .i64 5]) w) := by
  have b1 := nearI_abs n1; have b2 := nearI_abs n2
  have HN : Hid ((nearI X && nearI Y) = true) := by show _ = _; rw [n1, n2]; rfl
  clear n1 n2
  have b3 := nearI_abs hp1; have b4 := nearI_abs hp2
  have HP : Hid ((nearI x && nearI y) = true) := by show _ = _; rw [hp1, hp2]; rfl
  clear hp1 hp2
  have lb := lin_bounds (k := k) (f := f) b3 b4
  obtain ⟨U, hU⟩ : ∃ U, linX k f x y + X = U := ⟨_, rfl⟩
  obtain ⟨V, hV⟩ : ∃ V, linY k f x y + Y = V := ⟨_, rfl⟩
  have bU : U.natAbs ≤ 4398046511104 := by omega
  have bV : V.natAbs ≤ 4398046511104 := by omega
  rw [hU, hV] at hq
  have LX := Lib.hid hU; have LY := Lib.hid hV
  clear lb hU hV
  have HQ := Lib.hid hq; clear hq
  have K1 : (((w.alloc (.cells #[.complex .f64 tr ti, .bool f, .complex .f64 mr mi] 41)).alloc (.cells #[.int .i64 x, .int .i64 y] 25)).alloc (.cells #[.int .i64 0, .int .i64 0] 25)).heap[w.heap.size]? = some (.cells #[.complex .f64 tr ti, .bool f, .complex .f64 mr mi] 41 (0, 0)) := (bk_alloc (bk_alloc (bk_new _ _) _) _)
  have K2 : (((w.alloc (.cells #[.complex .f64 tr ti, .bool f, .complex .f64 mr mi] 41)).alloc (.cells #[.int .i64 x, .int .i64 y] 25)).alloc (.cells #[.int .i64 0, .int .i64 0] 25)).heap[w.heap.size + 1]? = some (.cells #[.int .i64 x, .int .i64 y] 25 (0, 0)) := (bk_alloc (by have := bk_new (w.alloc (.cells #[.complex .f64 tr ti, .bool f, .complex .f64 mr mi] 41)) (.cells #[.int .i64 x, .int .i64 y] 25); simpa only [World.size_alloc] using this) _)
  have KR : (((w.alloc (.cells #[.complex .f64 tr ti, .bool f, .complex .f64 mr mi] 41)).alloc (.cells #[.int .i64 x, .int .i64 y] 25)).alloc (.cells #[.int .i64 0, .int .i64 0] 25)).heap[w.heap.size + 1 + 1]? = some (.cells #[.int .i64 0, .int .i64 0] 25 (0, 0)) := (by have := bk_new ((w.alloc (.cells #[.complex .f64 tr ti, .bool f, .complex .f64 mr mi] 41)).alloc (.cells #[.int .i64 x, .int .i64 y] 25)) (.cells #[.int .i64 0, .int .i64 0] 25); simpa only [World.size_alloc] using this)
  have hBw : Below w.heap.size w (((w.alloc (.cells #[.complex .f64 tr ti, .bool f, .complex .f64 mr mi] 41)).alloc (.cells #[.int .i64 x, .int .i64 y] 25)).alloc (.cells #[.int .i64 0, .int .i64 0] 25)) := ((boxed _ _).alloc (by simp) _).alloc (by simp; try omega) _
  go_enter Try.func29, Try.ntmps29
  go_wp2_with (first | fail)
  generalize hW0 : (((w.alloc (.cells #[.complex .f64 tr ti, .bool f, .complex .f64 mr mi] 41)).alloc (.cells #[.int .i64 x, .int .i64 y] 25)).alloc (.cells #[.int .i64 0, .int .i64 0] 25)) = W0 at *
  clear hW0
  have hB := same W0
  have K10 := K1
  have K20 := K2
  have KR0 := KR
  refine (Valid_calls _ _ _ _ _ _ _ _ _ h (by omega) (by omega)).mono ?_
  rintro e w1 ⟨rfl, hb1⟩
  rw [HN.out]
  replace hB := next hB hb1; replace K1 := bk_below K1 hb1; have hcK1 := bk_cell K1; have hfK1 := bk_free K1; have hlK1 := bk_lt K1; replace K2 := bk_below K2 hb1; have hcK2 := bk_cell K2; have hfK2 := bk_free K2; have hlK2 := bk_lt K2; replace KR := bk_below KR hb1; have hcKR := bk_cell KR; have hfKR := bk_free KR; have hlKR := bk_lt KR
  go_wp2_with (first | fail)
  refine (inear_calls _ _ _).mono ?_
  rintro e w1 ⟨rfl, hb1⟩
  rw [HP.out]
  replace hB := next hB hb1; replace K1 := bk_below K1 hb1; have hcK1 := bk_cell K1; have hfK1 := bk_free K1; have hlK1 := bk_lt K1; replace K2 := bk_below K2 hb1; have hcK2 := bk_cell K2; have hfK2 := bk_free K2; have hlK2 := bk_lt K2; replace KR := bk_below KR hb1; have hcKR := bk_cell KR; have hfKR := bk_free KR; have hlKR := bk_lt KR
  have hc1 : ∀ w, (convert 3 85 (.int .i64 x)).run Try.prog w = .ok (.float .f64 (fl x)) w := fun w => run_convert_int_float w _ _ _ _ _ (by rw [Try.underlying3]; rfl) Try.underlying85
  have hc2 : ∀ w, (convert 3 85 (.int .i64 y)).run Try.prog w = .ok (.float .f64 (fl y)) w := fun w => run_convert_int_float w _ _ _ _ _ (by rw [Try.underlying3]; rfl) Try.underlying85
  go_wp2_with (first | fail)
  refine (does_calls _ _ _ _ _ _ _ _ _ _ _ _ _ h (isW_fl x (by omega)) (isW_fl y (by omega)) (by omega) (by omega) (by omega) (by omega)).mono ?_
  rintro e w1 ⟨zr, zi, rfl, wr, wi, hb1⟩
  rw [LX.out] at wr
  rw [LY.out] at wi
  replace hB := next hB hb1; replace KR := bk_below KR hb1; have hcKR := bk_cell KR; have hfKR := bk_free KR; have hlKR := bk_lt KR
  have hd1 : ∀ w, (convert 85 3 (.float .f64 zr)).run Try.prog w = .ok (.int .i64 U) w := fun w => run_convert_float_int w _ _ _ _ _ _ (by rw [Try.underlying85]; rfl) Try.underlying3 (toIntVal wr (by omega) (by omega))
  have hd2 : ∀ w, (convert 85 3 (.float .f64 zi)).run Try.prog w = .ok (.int .i64 V) w := fun w => run_convert_float_int w _ _ _ _ _ _ (by rw [Try.underlying85]; rfl) Try.underlying3 (toIntVal wi (by omega) (by omega))
  clear wr wi
  go_wp2_with (first | fail)
  refine (inear_calls _ _ _).mono ?_
  rintro e w2 ⟨rfl, hb1⟩
  rw [HQ.out]
  have KQ := bk_below (bk_new _ _) hb1; have hcQ := bk_cell KQ; have hlQ := bk_lt KQ
  replace hB := next hB (box hb1); replace KR := bk_below KR (box hb1); have hcKR := bk_cell KR; have hfKR := bk_free KR; have hlKR := bk_lt KR
  go_wp2_with (first | fail)
  refine end_ct (w.heap.size + 1 + 1) 25 rfl rfl rfl Try.underlying25 rfl ?_
  apply Exists.intro
  refine ⟨(by repeat (with_reducible (first | exact KR | apply bk_set | refine bk_drew ?_ | refine bk_drewN ?_ _ | refine bk_alloc ?_ _ | refine bk_far ?_ (by simp; try omega) _))), by kernel_rfl, ?_⟩
  exact Ret.of rfl (by repeat (with_reducible (first | exact hBw.trans (hB.mono hBw.size) | refine Below.setCell ?_ (by have h1_ := hBw.size; have h2_ := hB.size; (try simp) <;> omega) _ | refine Below.drew ?_ | refine Below.alloc ?_ (by have h1_ := hBw.size; have h2_ := hB.size; (try simp) <;> omega) _)))

set_option maxHeartbeats 2000000 in
theorem At_ok (tr ti mr mi : Nat) (f : Bool) (k X Y x y : Int) (w : World) (h : IsIso tr ti mr mi k X Y) (n1 : nearI X = true) (n2 : nearI Y = true) (hp1 : nearI x = true) (hp2 : nearI y = true) (hq : (nearI (linX k f x y + X) && nearI (linY k f x y + Y)) = true) :
    Calls Try.prog 29 #[isoV tr ti f mr mi, pt x y] w (Ret (.tuple #[pt (linX k f x y + X) (linY k f x y + Y), .int .i64 0]) w) := by
  have b1 := nearI_abs n1; have b2 := nearI_abs n2
  have HN : Hid ((nearI X && nearI Y) = true) := by show _ = _; rw [n1, n2]; rfl
  clear n1 n2
  have b3 := nearI_abs hp1; have b4 := nearI_abs hp2
  have HP : Hid ((nearI x && nearI y) = true) := by show _ = _; rw [hp1, hp2]; rfl
  clear hp1 hp2
  have lb := lin_bounds (k := k) (f := f) b3 b4
  obtain ⟨U, hU⟩ : ∃ U, linX k f x y + X = U := ⟨_, rfl⟩
  obtain ⟨V, hV⟩ : ∃ V, linY k f x y + Y = V := ⟨_, rfl⟩
  have bU : U.natAbs ≤ 4398046511104 := by omega
  have bV : V.natAbs ≤ 4398046511104 := by omega
  rw [hU, hV] at hq ⊢
  have LX := Lib.hid hU; have LY := Lib.hid hV
  clear lb hU hV
  have HQ := Lib.hid hq; clear hq
  have K1 : (((w.alloc (.cells #[.complex .f64 tr ti, .bool f, .complex .f64 mr mi] 41)).alloc (.cells #[.int .i64 x, .int .i64 y] 25)).alloc (.cells #[.int .i64 0, .int .i64 0] 25)).heap[w.heap.size]? = some (.cells #[.complex .f64 tr ti, .bool f, .complex .f64 mr mi] 41 (0, 0)) := (bk_alloc (bk_alloc (bk_new _ _) _) _)
  have K2 : (((w.alloc (.cells #[.complex .f64 tr ti, .bool f, .complex .f64 mr mi] 41)).alloc (.cells #[.int .i64 x, .int .i64 y] 25)).alloc (.cells #[.int .i64 0, .int .i64 0] 25)).heap[w.heap.size + 1]? = some (.cells #[.int .i64 x, .int .i64 y] 25 (0, 0)) := (bk_alloc (by have := bk_new (w.alloc (.cells #[.complex .f64 tr ti, .bool f, .complex .f64 mr mi] 41)) (.cells #[.int .i64 x, .int .i64 y] 25); simpa only [World.size_alloc] using this) _)
  have KR : (((w.alloc (.cells #[.complex .f64 tr ti, .bool f, .complex .f64 mr mi] 41)).alloc (.cells #[.int .i64 x, .int .i64 y] 25)).alloc (.cells #[.int .i64 0, .int .i64 0] 25)).heap[w.heap.size + 1 + 1]? = some (.cells #[.int .i64 0, .int .i64 0] 25 (0, 0)) := (by have := bk_new ((w.alloc (.cells #[.complex .f64 tr ti, .bool f, .complex .f64 mr mi] 41)).alloc (.cells #[.int .i64 x, .int .i64 y] 25)) (.cells #[.int .i64 0, .int .i64 0] 25); simpa only [World.size_alloc] using this)
  have hBw : Below w.heap.size w (((w.alloc (.cells #[.complex .f64 tr ti, .bool f, .complex .f64 mr mi] 41)).alloc (.cells #[.int .i64 x, .int .i64 y] 25)).alloc (.cells #[.int .i64 0, .int .i64 0] 25)) := ((boxed _ _).alloc (by simp) _).alloc (by simp; try omega) _
  go_enter Try.func29, Try.ntmps29
  go_wp2_with (first | fail)
  generalize hW0 : (((w.alloc (.cells #[.complex .f64 tr ti, .bool f, .complex .f64 mr mi] 41)).alloc (.cells #[.int .i64 x, .int .i64 y] 25)).alloc (.cells #[.int .i64 0, .int .i64 0] 25)) = W0 at *
  clear hW0
  have hB := same W0
  have K10 := K1
  have K20 := K2
  have KR0 := KR
  refine (Valid_calls _ _ _ _ _ _ _ _ _ h (by omega) (by omega)).mono ?_
  rintro e w1 ⟨rfl, hb1⟩
  rw [HN.out]
  replace hB := next hB hb1; replace K1 := bk_below K1 hb1; have hcK1 := bk_cell K1; have hfK1 := bk_free K1; have hlK1 := bk_lt K1; replace K2 := bk_below K2 hb1; have hcK2 := bk_cell K2; have hfK2 := bk_free K2; have hlK2 := bk_lt K2; replace KR := bk_below KR hb1; have hcKR := bk_cell KR; have hfKR := bk_free KR; have hlKR := bk_lt KR
  go_wp2_with (first | fail)
  refine (inear_calls _ _ _).mono ?_
  rintro e w1 ⟨rfl, hb1⟩
  rw [HP.out]
  replace hB := next hB hb1; replace K1 := bk_below K1 hb1; have hcK1 := bk_cell K1; have hfK1 := bk_free K1; have hlK1 := bk_lt K1; replace K2 := bk_below K2 hb1; have hcK2 := bk_cell K2; have hfK2 := bk_free K2; have hlK2 := bk_lt K2; replace KR := bk_below KR hb1; have hcKR := bk_cell KR; have hfKR := bk_free KR; have hlKR := bk_lt KR
  have hc1 : ∀ w, (convert 3 85 (.int .i64 x)).run Try.prog w = .ok (.float .f64 (fl x)) w := fun w => run_convert_int_float w _ _ _ _ _ (by rw [Try.underlying3]; rfl) Try.underlying85
  have hc2 : ∀ w, (convert 3 85 (.int .i64 y)).run Try.prog w = .ok (.float .f64 (fl y)) w := fun w => run_convert_int_float w _ _ _ _ _ (by rw [Try.underlying3]; rfl) Try.underlying85
  go_wp2_with (first | fail)
  refine (does_calls _ _ _ _ _ _ _ _ _ _ _ _ _ h (isW_fl x (by omega)) (isW_fl y (by omega)) (by omega) (by omega) (by omega) (by omega)).mono ?_
  rintro e w1 ⟨zr, zi, rfl, wr, wi, hb1⟩
  rw [LX.out] at wr
  rw [LY.out] at wi
  replace hB := next hB hb1; replace KR := bk_below KR hb1; have hcKR := bk_cell KR; have hfKR := bk_free KR; have hlKR := bk_lt KR
  have hd1 : ∀ w, (convert 85 3 (.float .f64 zr)).run Try.prog w = .ok (.int .i64 U) w := fun w => run_convert_float_int w _ _ _ _ _ _ (by rw [Try.underlying85]; rfl) Try.underlying3 (toIntVal wr (by omega) (by omega))
  have hd2 : ∀ w, (convert 85 3 (.float .f64 zi)).run Try.prog w = .ok (.int .i64 V) w := fun w => run_convert_float_int w _ _ _ _ _ _ (by rw [Try.underlying85]; rfl) Try.underlying3 (toIntVal wi (by omega) (by omega))
  clear wr wi
  go_wp2_with (first | fail)
  refine (inear_calls _ _ _).mono ?_
  rintro e w2 ⟨rfl, hb1⟩
  rw [HQ.out]
  have KQ := bk_below (bk_new _ _) hb1; have hcQ := bk_cell KQ; have hlQ := bk_lt KQ
  replace hB := next hB (box hb1); replace KR := bk_below KR (box hb1); have hcKR := bk_cell KR; have hfKR := bk_free KR; have hlKR := bk_lt KR
  go_wp2_with (first | fail)
  refine end_ct (w.heap.size + 1 + 1) 25 rfl rfl rfl Try.underlying25 rfl ?_
  apply Exists.intro
  refine ⟨(by repeat (with_reducible (first | exact KR | apply bk_set | refine bk_drew ?_ | refine bk_drewN ?_ _ | refine bk_alloc ?_ _ | refine bk_far ?_ (by simp; try omega) _))), by kernel_rfl, ?_⟩
  exact Ret.of rfl (by repeat (with_reducible (first | exact hBw.trans (hB.mono hBw.size) | refine Below.setCell ?_ (by have h1_ := hBw.size; have h2_ := hB.size; (try simp) <;> omega) _ | refine Below.drew ?_ | refine Below.alloc ?_ (by have h1_ := hBw.size; have h2_ := hB.size; (try simp) <;> omega) _)))

end Go.Proofs.Ytfdehecekghlmaa
