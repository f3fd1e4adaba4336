/- A rule, each number brought under sixteen. -/
import Derived.Test.YtdpcmpfhjhbicaaBkN
set_option linter.unusedVariables false
set_option linter.unusedSimpArgs false
namespace Go.Proofs.Ytdpcmpfhjhbicaa
open Go.RowKit Go.Viv

/-- the rule, each number brought under sixteen: the first k -/
def modK (b : List Int) : Nat → List Int
  | 0 => List.replicate 16 0
  | k + 1 => (modK b k).set k (nth b k % 16)
theorem modK_length (b : List Int) : ∀ k, (modK b k).length = 16
  | 0 => rfl
  | k + 1 => by rw [modK, List.length_set, modK_length b k]
theorem modK_bd {b : List Int} (hb : Arr16 b) : ∀ k, k ≤ 16 → ∀ j, j < 16 → 0 ≤ nth (modK b k) j ∧ nth (modK b k) j ≤ 15
  | 0, _, j, hj => by rw [modK, nth_rep _ _ _ hj]; omega
  | k + 1, hk, j, hj => by
    rw [modK, nth_set]
    split
    · omega
    · exact modK_bd hb k (by omega) j hj
theorem mod16 {b : List Int} (hb : Arr16 b) : Arr16 (modK b 16) := ⟨modK_length b 16, fun j hj => by have := modK_bd hb 16 (by omega) j hj; omega⟩
theorem mod_check {b : List Int} (hb : Arr16 b) : checkB (modK b 16) = 0 := checkB_ok fun j hj => (modK_bd hb 16 (by omega) j (by rw [modK_length] at hj; exact hj)).2
end Go.Proofs.Ytdpcmpfhjhbicaa
