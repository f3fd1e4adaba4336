/- The plain law of steps within a tile. -/
import Derived.Test.YtfdehecekghlmaaPartM
set_option linter.unusedVariables false
set_option linter.unusedSimpArgs false
namespace Go.Proofs.Ytfdehecekghlmaa
open Go.RowKit Go.Viv

theorem emod_sub (u u' W : Int) : ∃ q, u' % W - u % W - (u' - u) = W * q := ⟨u / W - u' / W, by rw [Int.emod_def, Int.emod_def, Int.mul_sub]; omega⟩

/-- the difference of two cells is the step, turned, but for whole sides -/
theorem steps_law {k W H t s x y x' y' : Int} (h : TopoOk k W H t s) (hk : checkE k W H t s = 0) (hg : gluedI k = true) (he : cellE k W H t s x y = 0) (he' : cellE k W H t s x' y' = 0)
    (tu : (x - first W) / W = (x' - first W) / W) (tv : (y - first H) / H = (y' - first H) / H) :
    ∃ q1 q2, cellX k W H t s x' y' - cellX k W H t s x y - linX (partN k W H t s x y % 4) (decide (4 ≤ partN k W H t s x y)) (x' - x) (y' - y) = W * q1 ∧
      cellY k W H t s x' y' - cellY k W H t s x y - linY (partN k W H t s x y % 4) (decide (4 ≤ partN k W H t s x y)) (x' - x) (y' - y) = H * q2 := by
  have hX : cellX k W H t s x y = cellU k W H t s (x - first W) (y - first H) + first W := by unfold cellX; rw [if_neg (by simp [he]), if_pos hg]
  have hX' : cellX k W H t s x' y' = cellU k W H t s (x' - first W) (y' - first H) + first W := by unfold cellX; rw [if_neg (by simp [he']), if_pos hg]
  have hY : cellY k W H t s x y = cellV k W H t s (x - first W) (y - first H) + first H := by unfold cellY; rw [if_neg (by simp [he]), if_pos hg]
  have hY' : cellY k W H t s x' y' = cellV k W H t s (x' - first W) (y' - first H) + first H := by unfold cellY; rw [if_neg (by simp [he']), if_pos hg]
  rw [hX, hX', hY, hY']
  have hp : partN k W H t s x y = (let across : Bool := decide ((k = 3 ∧ t = 1 ∨ k = 4) ∧ (y - first H) / H % 2 = 1); let down : Bool := decide ((k = 3 ∧ t = 2 ∨ k = 4) ∧ (x - first W) / W % 2 = 1); if across && down then 2 else if across then 6 else if down then 4 else 0) := by
    conv => lhs; unfold partN; rw [if_neg (by simp [he])]
  obtain ⟨N, hN⟩ : ∃ N, partN k W H t s x y = N := ⟨_, rfl⟩
  rw [hN] at hp ⊢
  clear hN hX hX' hY hY'
  have ed : x' - x = (x' - first W) - (x - first W) := by omega
  have ed2 : y' - y = (y' - first H) - (y - first H) := by omega
  rw [ed, ed2]
  obtain ⟨u, hu⟩ : ∃ u, x - first W = u := ⟨_, rfl⟩
  obtain ⟨v, hv⟩ : ∃ v, y - first H = v := ⟨_, rfl⟩
  obtain ⟨u', hu'⟩ : ∃ u, x' - first W = u := ⟨_, rfl⟩
  obtain ⟨v', hv'⟩ : ∃ v, y' - first H = v := ⟨_, rfl⟩
  rw [hu, hv] at hp
  rw [hu, hu'] at tu
  rw [hv, hv'] at tv
  rw [hu, hv, hu', hv']
  clear hu hv hu' hv' ed ed2 he he' hk
  have hk3 : k = 2 ∨ k = 3 ∨ k = 4 := by unfold gluedI at hg; simp at hg; omega
  have t0 := h.t0; have t2 := h.t2
  have ht : t = 0 ∨ t = 1 ∨ t = 2 := by omega
  obtain ⟨a1, e1⟩ := emod_sub u u' W
  obtain ⟨a2, e2⟩ := emod_sub v v' H
  unfold cellU cellV
  rcases hk3 with rfl | rfl | rfl
  · have : N = 0 := by rw [hp]; simp
    subst this
    simp only [linX, linY, qre, qim]
    rcases ht with rfl | rfl | rfl
    · simp; exact ⟨⟨a1, by omega⟩, ⟨a2, by omega⟩⟩
    · obtain ⟨a3, e3⟩ := emod_sub (u - v / H * s) (u' - v' / H * s) W
      simp; refine ⟨⟨a3, ?_⟩, ⟨a2, by omega⟩⟩
      rw [tv] at e3 ⊢; omega
    · obtain ⟨a3, e3⟩ := emod_sub (v - u / W * s) (v' - u' / W * s) H
      simp; refine ⟨⟨a1, by omega⟩, ⟨a3, ?_⟩⟩
      rw [tu] at e3 ⊢; omega
  · have tk := h.klein rfl
    rcases ht with rfl | rfl | rfl
    · exact absurd rfl tk
    · by_cases ho : v / H % 2 = 1
      · have : N = 6 := by rw [hp]; simp [ho]
        subst this
        have ho' : v' / H % 2 = 1 := by rw [← tv]; exact ho
        obtain ⟨a3, e3⟩ := emod_sub (W - 1 - u + s) (W - 1 - u' + s) W
        simp [linX, linY, qre, qim, ho, ho']; exact ⟨⟨a3, by omega⟩, ⟨a2, by omega⟩⟩
      · have : N = 0 := by rw [hp]; simp [ho]
        subst this
        have ho' : ¬ v' / H % 2 = 1 := by rw [← tv]; exact ho
        simp [linX, linY, qre, qim, ho, ho']; exact ⟨⟨a1, by omega⟩, ⟨a2, by omega⟩⟩
    · by_cases ho : u / W % 2 = 1
      · have : N = 4 := by rw [hp]; simp [ho]
        subst this
        have ho' : u' / W % 2 = 1 := by rw [← tu]; exact ho
        obtain ⟨a3, e3⟩ := emod_sub (H - 1 - v + s) (H - 1 - v' + s) H
        simp [linX, linY, qre, qim, ho, ho']; exact ⟨⟨a1, by omega⟩, ⟨a3, by omega⟩⟩
      · have : N = 0 := by rw [hp]; simp [ho]
        subst this
        have ho' : ¬ u' / W % 2 = 1 := by rw [← tu]; exact ho
        simp [linX, linY, qre, qim, ho, ho']; exact ⟨⟨a1, by omega⟩, ⟨a2, by omega⟩⟩
  · have hn0 : ∃ q, -a1 = q := ⟨_, rfl⟩
    have m1 : W * -a1 = -(W * a1) := Int.mul_neg _ _
    have m2 : H * -a2 = -(H * a2) := Int.mul_neg _ _
    by_cases ho : v / H % 2 = 1 <;> by_cases hp2 : u / W % 2 = 1
    · have : N = 2 := by rw [hp]; simp [ho, hp2]
      subst this
      have ho' : v' / H % 2 = 1 := by rw [← tv]; exact ho
      have hp' : u' / W % 2 = 1 := by rw [← tu]; exact hp2
      simp [linX, linY, qre, qim, ho, ho', hp2, hp']; exact ⟨⟨-a1, by rw [m1]; omega⟩, ⟨-a2, by rw [m2]; omega⟩⟩
    · have : N = 6 := by rw [hp]; simp [ho, hp2]
      subst this
      have ho' : v' / H % 2 = 1 := by rw [← tv]; exact ho
      have hp' : ¬ u' / W % 2 = 1 := by rw [← tu]; exact hp2
      simp [linX, linY, qre, qim, ho, ho', hp2, hp']; exact ⟨⟨-a1, by rw [m1]; omega⟩, ⟨a2, by omega⟩⟩
    · have : N = 4 := by rw [hp]; simp [ho, hp2]
      subst this
      have ho' : ¬ v' / H % 2 = 1 := by rw [← tv]; exact ho
      have hp' : u' / W % 2 = 1 := by rw [← tu]; exact hp2
      simp [linX, linY, qre, qim, ho, ho', hp2, hp']; exact ⟨⟨a1, by omega⟩, ⟨-a2, by rw [m2]; omega⟩⟩
    · have : N = 0 := by rw [hp]; simp [ho, hp2]
      subst this
      have ho' : ¬ v' / H % 2 = 1 := by rw [← tv]; exact ho
      have hp' : ¬ u' / W % 2 = 1 := by rw [← tu]; exact hp2
      simp [linX, linY, qre, qim, ho, ho', hp2, hp']; exact ⟨⟨a1, by omega⟩, ⟨a2, by omega⟩⟩

/-- the law's own tile -/
theorem tile_neg {u W : Int} (hW : 0 < W) (hu : u < 0) : -((W - 1 - u).tdiv W) = u / W := by
  rw [Int.tdiv_eq_ediv_of_nonneg (by omega)]
  have h1 := Int.emod_nonneg u (by omega : W ≠ 0)
  have h2 := Int.emod_lt_of_pos u hW
  have h3 : W - 1 - u = (W - 1 - u % W) + W * (-(u / W)) := by rw [Int.emod_def, Int.mul_neg]; omega
  rw [h3, Int.add_mul_ediv_left _ _ (by omega), Int.ediv_eq_zero_of_lt (by omega) (by omega)]
  omega
end Go.Proofs.Ytfdehecekghlmaa
