/- hood: all, within, Offsets. -/
import Derived.Test.YtkldffpdlkmncaaRd
import Derived.BigQuiet
import Derived.BigRegion
import Derived.Deep.QuietTactic
set_option linter.unusedVariables false
set_option linter.unusedSimpArgs false
namespace Go.Proofs.Ytkldffpdlkmncaa
open Go.RowKit Go.Viv

def hdX : Nat → Int
  | 0 => 0 | 1 => 1 | 2 => 1 | 3 => 1 | 4 => 0 | 5 => -1 | 6 => -1 | _ => -1
def hdY : Nat → Int
  | 0 => -1 | 1 => -1 | 2 => 0 | 3 => 1 | 4 => 1 | 5 => 1 | 6 => 0 | _ => -1
def hdB (k : Int) (j : Nat) : Bool := if k = 1 then true else if k = 2 then decide (j % 2 = 0) else decide (j ≠ 1 ∧ j ≠ 5)
/-- the offsets among the first j -/
def hdL (k : Int) (j : Nat) : List (Int × Int) := (List.range j).filterMap fun i => if hdB k i then some (hdX i, hdY i) else none
def ptsV (l : List (Int × Int)) : List Value := l.flatMap fun p => [.int .i64 p.1, .int .i64 p.2]
theorem ptsV_append (a b : List (Int × Int)) : ptsV (a ++ b) = ptsV a ++ ptsV b := by unfold ptsV; rw [List.flatMap_append]
theorem ptsV_length (a : List (Int × Int)) : (ptsV a).length = a.length * 2 := by
  induction a with
  | nil => rfl
  | cons p a ih => show ((Value.int .i64 p.1 :: .int .i64 p.2 :: ptsV a).length = _); simp [ih]; omega
theorem hdL_succ (k : Int) (j : Nat) : hdL k (j + 1) = hdL k j ++ (if hdB k j then [(hdX j, hdY j)] else []) := by
  unfold hdL
  rw [List.range_succ, List.filterMap_append]
  congr 1
  cases h : hdB k j <;> simp [h]
def hdE (k : Int) : Int := if k = 1 ∨ k = 2 ∨ k = 3 then 0 else 70
def allA : Array Value := #[.int .i64 0, .int .i64 (-1), .int .i64 1, .int .i64 (-1), .int .i64 1, .int .i64 0, .int .i64 1, .int .i64 1, .int .i64 0, .int .i64 1, .int .i64 (-1), .int .i64 1, .int .i64 (-1), .int .i64 0, .int .i64 (-1), .int .i64 (-1)]
def inA (k : Int) : Array Value := if hdE k = 0 then #[.bool (hdB k 0), .bool (hdB k 1), .bool (hdB k 2), .bool (hdB k 3), .bool (hdB k 4), .bool (hdB k 5), .bool (hdB k 6), .bool (hdB k 7)] else #[.bool false, .bool false, .bool false, .bool false, .bool false, .bool false, .bool false, .bool false]
theorem allA_at {j : Nat} (hj : j < 8) : allA[j * 2]? = some (.int .i64 (hdX j)) ∧ allA[j * 2 + 1]? = some (.int .i64 (hdY j)) := by
  have : j = 0 ∨ j = 1 ∨ j = 2 ∨ j = 3 ∨ j = 4 ∨ j = 5 ∨ j = 6 ∨ j = 7 := by omega
  rcases this with rfl | rfl | rfl | rfl | rfl | rfl | rfl | rfl <;> exact ⟨rfl, rfl⟩
theorem inA_at {k : Int} (hk : hdE k = 0) {j : Nat} (hj : j < 8) : (inA k)[j]? = some (.bool (hdB k j)) := by
  unfold inA
  rw [if_pos hk]
  have : j = 0 ∨ j = 1 ∨ j = 2 ∨ j = 3 ∨ j = 4 ∨ j = 5 ∨ j = 6 ∨ j = 7 := by omega
  rcases this with rfl | rfl | rfl | rfl | rfl | rfl | rfl | rfl <;> rfl

set_option maxHeartbeats 2000000 in
theorem hdAll_calls (w : World) : Calls Try.prog 72 #[] w (Ret (.agg allA) w) := by
  have KR := bk_new w (.cells #[.int .i64 0, .int .i64 0, .int .i64 0, .int .i64 0, .int .i64 0, .int .i64 0, .int .i64 0, .int .i64 0, .int .i64 0, .int .i64 0, .int .i64 0, .int .i64 0, .int .i64 0, .int .i64 0, .int .i64 0, .int .i64 0] 128)
  have hc := bk_cell KR; have hf := bk_free KR
  have hBw := boxed w (.cells #[.int .i64 0, .int .i64 0, .int .i64 0, .int .i64 0, .int .i64 0, .int .i64 0, .int .i64 0, .int .i64 0, .int .i64 0, .int .i64 0, .int .i64 0, .int .i64 0, .int .i64 0, .int .i64 0, .int .i64 0, .int .i64 0] 128)
  have hB := Below.refl (w.alloc (.cells #[.int .i64 0, .int .i64 0, .int .i64 0, .int .i64 0, .int .i64 0, .int .i64 0, .int .i64 0, .int .i64 0, .int .i64 0, .int .i64 0, .int .i64 0, .int .i64 0, .int .i64 0, .int .i64 0, .int .i64 0, .int .i64 0] 128)).heap.size (w.alloc (.cells #[.int .i64 0, .int .i64 0, .int .i64 0, .int .i64 0, .int .i64 0, .int .i64 0, .int .i64 0, .int .i64 0, .int .i64 0, .int .i64 0, .int .i64 0, .int .i64 0, .int .i64 0, .int .i64 0, .int .i64 0, .int .i64 0] 128))
  go_enter Try.func72, Try.ntmps72
  go_wp2
  refine end_c w.heap.size 128 rfl rfl rfl Try.underlying128 rfl ?_
  apply Exists.intro
  refine ⟨bk_new _ _, by kernel_rfl, ?_⟩
  exact Ret.of rfl (boxed _ _)

set_option maxHeartbeats 2000000 in
theorem hdWithin_calls (k : Int) (w : World) : Calls Try.prog 71 #[.int .u8 k] w (Ret (.tuple #[.agg (inA k), .int .i64 (hdE k)]) w) := by
  have KR := bk_new w (.cells #[.bool false, .bool false, .bool false, .bool false, .bool false, .bool false, .bool false, .bool false] 125)
  have hc := bk_cell KR; have hf := bk_free KR
  have hBw := boxed w (.cells #[.bool false, .bool false, .bool false, .bool false, .bool false, .bool false, .bool false, .bool false] 125)
  have hB := Below.refl (w.alloc (.cells #[.bool false, .bool false, .bool false, .bool false, .bool false, .bool false, .bool false, .bool false] 125)).heap.size (w.alloc (.cells #[.bool false, .bool false, .bool false, .bool false, .bool false, .bool false, .bool false, .bool false] 125))
  by_cases h1 : k = 1
  · subst h1
    go_enter Try.func71, Try.ntmps71
    go_wp2
    refine end_ct w.heap.size 125 rfl rfl rfl Try.underlying125 rfl ?_
    apply Exists.intro
    refine ⟨bk_new _ _, by kernel_rfl, ?_⟩
    exact Ret.of rfl (boxed _ _)
  by_cases h2 : k = 2
  · subst h2
    go_enter Try.func71, Try.ntmps71
    go_wp2
    refine end_ct w.heap.size 125 rfl rfl rfl Try.underlying125 rfl ?_
    apply Exists.intro
    refine ⟨bk_new _ _, by kernel_rfl, ?_⟩
    exact Ret.of rfl (boxed _ _)
  by_cases h3 : k = 3
  · subst h3
    go_enter Try.func71, Try.ntmps71
    go_wp2
    refine end_ct w.heap.size 125 rfl rfl rfl Try.underlying125 rfl ?_
    apply Exists.intro
    refine ⟨bk_new _ _, by kernel_rfl, ?_⟩
    exact Ret.of rfl (boxed _ _)
  · have hE : hdE k = 70 := by unfold hdE; rw [if_neg (by omega)]
    have hA : inA k = #[.bool false, .bool false, .bool false, .bool false, .bool false, .bool false, .bool false, .bool false] := by unfold inA; rw [hE]; rfl
    have HE := Lib.hid hE; have HA := Lib.hid hA
    clear hE hA
    go_enter Try.func71, Try.ntmps71
    go_wp2
    refine end_ct w.heap.size 125 rfl rfl rfl Try.underlying125 rfl ?_
    apply Exists.intro
    refine ⟨bk_new _ _, by kernel_rfl, ?_⟩
    exact Ret.of (by rw [HA.out, HE.out]; rfl) (boxed _ _)
end Go.Proofs.Ytkldffpdlkmncaa
