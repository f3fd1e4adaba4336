/- The plain law: the gluing maps keep the cell. -/
import Derived.Test.YtfdehecekghlmaaStepsM
set_option linter.unusedVariables false
set_option linter.unusedSimpArgs false
namespace Go.Proofs.Ytfdehecekghlmaa
open Go.RowKit Go.Viv

theorem ediv_up {v H : Int} (h : 0 < H) : (v + H) / H = v / H + 1 := by
  rw [Int.add_ediv_of_dvd_right (Int.dvd_refl H), Int.ediv_self (by omega)]
theorem emod_up {v H : Int} : (v + H) % H = v % H := Int.add_emod_right v H
theorem ediv_flip {u W : Int} (hW : 0 < W) : (W - 1 - u) / W = -(u / W) := by
  have h1 := Int.emod_nonneg u (by omega : W ≠ 0)
  have h2 := Int.emod_lt_of_pos u hW
  have h3 : W - 1 - u = (W - 1 - u % W) + W * (-(u / W)) := by rw [Int.emod_def, Int.mul_neg]; omega
  rw [h3, Int.add_mul_ediv_left _ _ (by omega), Int.ediv_eq_zero_of_lt (by omega) (by omega)]
  omega
theorem emod_flip {u W : Int} (hW : 0 < W) : (W - 1 - u) % W = W - 1 - u % W := by
  rw [Int.emod_def, ediv_flip hW, Int.emod_def, Int.mul_neg]; omega
theorem emod_less {a W : Int} : (a - W) % W = a % W := by
  rw [← Int.add_emod_right (a - W) W]; congr 1; omega

/-- the map along the width keeps the cell -/
theorem keepX {k W H t s u v : Int} (h : TopoOk k W H t s) (hg : gluedI k = true) (hW : 0 < W) :
    let v' := if k = 4 ∨ (k = 3 ∧ t = 2) then H - 1 + (if t = 2 then s else 0) - v else v + (if t = 2 then s else 0)
    cellU k W H t s (u + W) v' = cellU k W H t s u v ∧ cellV k W H t s (u + W) v' = cellV k W H t s u v := by
  have hk3 : k = 2 ∨ k = 3 ∨ k = 4 := by unfold gluedI at hg; simp at hg; omega
  have t0 := h.t0; have t2 := h.t2
  have ht : t = 0 ∨ t = 1 ∨ t = 2 := by omega
  unfold cellU cellV
  rcases hk3 with rfl | rfl | rfl
  · rcases ht with rfl | rfl | rfl
    · simp
    · simp
      rw [show u + W - v / H * s = (u - v / H * s) + W by omega]
      exact Int.add_emod_right _ _
    · simp [ediv_up hW]
      congr 1
      rw [Int.add_mul]; omega
  · have hh := h.ends (by decide)
    have tk := h.klein rfl
    rcases ht with rfl | rfl | rfl
    · exact absurd rfl tk
    · simp
      split
      · rw [show W - 1 - (u + W) + s = (W - 1 - u + s) - W by omega]
        exact emod_less
      · rfl
    · simp [ediv_up hW]
      by_cases ho : u / W % 2 = 1
      · rw [if_neg (by omega), if_pos ho]
        congr 1; omega
      · rw [if_pos (by omega), if_neg ho]
        congr 1; omega
  · have hh := h.ends (by decide)
    obtain rfl : t = 0 := h.none (by decide) (by decide)
    simp [ediv_up hW, ediv_flip hh.2, emod_flip hh.2]
    by_cases ho : u / W % 2 = 1
    · rw [if_neg (by omega), if_pos ho]
    · rw [if_pos (by omega), if_neg ho]
      omega

/-- the map along the height keeps the cell -/
theorem keepY {k W H t s u v : Int} (h : TopoOk k W H t s) (hg : gluedI k = true) (hH : 0 < H) :
    let u' := if k = 4 ∨ (k = 3 ∧ t = 1) then W - 1 + (if t = 1 then s else 0) - u else u + (if t = 1 then s else 0)
    cellU k W H t s u' (v + H) = cellU k W H t s u v ∧ cellV k W H t s u' (v + H) = cellV k W H t s u v := by
  have hk3 : k = 2 ∨ k = 3 ∨ k = 4 := by unfold gluedI at hg; simp at hg; omega
  have t0 := h.t0; have t2 := h.t2
  have ht : t = 0 ∨ t = 1 ∨ t = 2 := by omega
  unfold cellU cellV
  rcases hk3 with rfl | rfl | rfl
  · rcases ht with rfl | rfl | rfl
    · simp
    · simp [ediv_up hH]
      congr 1
      rw [Int.add_mul]; omega
    · simp
      rw [show v + H - u / W * s = (v - u / W * s) + H by omega]
      exact Int.add_emod_right _ _
  · have hh := h.ends (by decide)
    have tk := h.klein rfl
    rcases ht with rfl | rfl | rfl
    · exact absurd rfl tk
    · simp [ediv_up hH]
      by_cases ho : v / H % 2 = 1
      · rw [if_neg (by omega), if_pos ho]
        congr 1; omega
      · rw [if_pos (by omega), if_neg ho]
        congr 1; omega
    · simp
      split
      · rw [show H - 1 - (v + H) + s = (H - 1 - v + s) - H by omega]
        exact emod_less
      · rfl
  · have hh := h.ends (by decide)
    obtain rfl : t = 0 := h.none (by decide) (by decide)
    simp [ediv_up hH, ediv_flip hh.1, emod_flip hh.1]
    by_cases ho : v / H % 2 = 1
    · rw [if_neg (by omega), if_pos ho]
    · rw [if_pos (by omega), if_neg ho]
      omega
end Go.Proofs.Ytfdehecekghlmaa
