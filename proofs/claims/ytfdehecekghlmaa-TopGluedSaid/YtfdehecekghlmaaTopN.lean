/- The plain law of TopGlued: a cell is one of the grid and its own; the ring says what the plane says; steps keep the cell. -/
import Derived.Test.YtfdehecekghlmaaTopB
set_option linter.unusedVariables false
set_option linter.unusedSimpArgs false
namespace Go.Proofs.Ytfdehecekghlmaa
open Go.RowKit Go.Viv Go.Proofs.Ytfdehecekghlmaa.PFoldRing

theorem cellU_in {k W H t s u v : Int} (h : TopoOk k W H t s) (hg : gluedI k = true) : (W = 0 ∧ cellU k W H t s u v = u) ∨ (0 < W ∧ 0 ≤ cellU k W H t s u v ∧ cellU k W H t s u v < W) := by
  have hk3 : k = 2 ∨ k = 3 ∨ k = 4 := by unfold gluedI at hg; simp at hg; omega
  by_cases hW : 0 < W
  · right
    have r := fun a => Int.emod_nonneg a (by omega : W ≠ 0)
    have r2 := fun a => Int.emod_lt_of_pos a hW
    refine ⟨hW, ?_⟩
    unfold cellU
    split
    · exact ⟨r _, r2 _⟩
    · split
      · exact ⟨r _, r2 _⟩
      · split
        · have a := r u; have b := r2 u; omega
        · exact ⟨r _, r2 _⟩
  · left
    have w0 := h.w0
    have hW0 : W = 0 := by omega
    have k2 : k = 2 := by
      rcases hk3 with rfl | rfl | rfl
      · rfl
      · have := h.ends (by decide); omega
      · have := h.ends (by decide); omega
    subst k2
    have t1 : t ≠ 1 := by
      intro ht
      have := h.torus rfl (by omega)
      omega
    refine ⟨hW0, ?_⟩
    unfold cellU
    rw [if_neg (by simp [t1]), if_neg (by simp), if_neg (by simp), hW0]
    simp
theorem cellV_in {k W H t s u v : Int} (h : TopoOk k W H t s) (hg : gluedI k = true) : (H = 0 ∧ cellV k W H t s u v = v) ∨ (0 < H ∧ 0 ≤ cellV k W H t s u v ∧ cellV k W H t s u v < H) := by
  have hk3 : k = 2 ∨ k = 3 ∨ k = 4 := by unfold gluedI at hg; simp at hg; omega
  by_cases hH : 0 < H
  · right
    have r := fun a => Int.emod_nonneg a (by omega : H ≠ 0)
    have r2 := fun a => Int.emod_lt_of_pos a hH
    refine ⟨hH, ?_⟩
    unfold cellV
    split
    · exact ⟨r _, r2 _⟩
    · split
      · exact ⟨r _, r2 _⟩
      · split
        · have a := r v; have b := r2 v; omega
        · exact ⟨r _, r2 _⟩
  · left
    have w0 := h.h0
    have hH0 : H = 0 := by omega
    have k2 : k = 2 := by
      rcases hk3 with rfl | rfl | rfl
      · rfl
      · have := h.ends (by decide); omega
      · have := h.ends (by decide); omega
    subst k2
    have t1 : t ≠ 2 := by
      intro ht
      have := h.torus rfl (by omega)
      omega
    refine ⟨hH0, ?_⟩
    unfold cellV
    rw [if_neg (by simp [t1]), if_neg (by simp), if_neg (by simp), hH0]
    simp

/-- the cell of a near place of a glued grid: near, a place of the grid, its own -/
theorem cell_facts {k W H t s x y : Int} (h : TopoOk k W H t s) (hk : checkE k W H t s = 0) (hg : gluedI k = true) (hx : nearI x = true) (hy : nearI y = true) :
    cellE k W H t s x y = 0 ∧ cellX k W H t s x y = cellU k W H t s (x - first W) (y - first H) + first W ∧ cellY k W H t s x y = cellV k W H t s (x - first W) (y - first H) + first H ∧
    nearI (cellX k W H t s x y) = true ∧ nearI (cellY k W H t s x y) = true ∧ (W = 0 ∨ (first W ≤ cellX k W H t s x y ∧ cellX k W H t s x y < first W + W)) ∧ (H = 0 ∨ (first H ≤ cellY k W H t s x y ∧ cellY k W H t s x y < first H + H)) ∧
    cellE k W H t s (cellX k W H t s x y) (cellY k W H t s x y) = 0 ∧ cellX k W H t s (cellX k W H t s x y) (cellY k W H t s x y) = cellX k W H t s x y ∧ cellY k W H t s (cellX k W H t s x y) (cellY k W H t s x y) = cellY k W H t s x y := by
  have e : ∀ a b, nearI a = true → nearI b = true → cellE k W H t s a b = 0 := fun a b ha hb => by unfold cellE; rw [if_neg (by simp [hk]), if_neg (by simp [ha, hb]), if_pos hg]
  have eX : ∀ a b, nearI a = true → nearI b = true → cellX k W H t s a b = cellU k W H t s (a - first W) (b - first H) + first W := fun a b ha hb => by unfold cellX; rw [if_neg (by simp [e a b ha hb]), if_pos hg]
  have eY : ∀ a b, nearI a = true → nearI b = true → cellY k W H t s a b = cellV k W H t s (a - first W) (b - first H) + first H := fun a b ha hb => by unfold cellY; rw [if_neg (by simp [e a b ha hb]), if_pos hg]
  have w0 := h.w0; have w1 := h.w1; have h0 := h.h0; have h1 := h.h1
  obtain ⟨f1, f2⟩ := first_b w0 w1
  obtain ⟨f3, f4⟩ := first_b h0 h1
  have hU := cellU_in (u := x - first W) (v := y - first H) h hg
  have hV := cellV_in (u := x - first W) (v := y - first H) h hg
  rw [eX x y hx hy, eY x y hx hy]
  obtain ⟨x1, x2⟩ := nearI_iff.1 hx
  obtain ⟨y1, y2⟩ := nearI_iff.1 hy
  have on1 : onI (cellU k W H t s (x - first W) (y - first H)) W = true := by unfold onI; simp; omega
  have on2 : onI (cellV k W H t s (x - first W) (y - first H)) H = true := by unfold onI; simp; omega
  have n1 : nearI (cellU k W H t s (x - first W) (y - first H) + first W) = true := nearI_iff.2 (by omega)
  have n2 : nearI (cellV k W H t s (x - first W) (y - first H) + first H) = true := nearI_iff.2 (by omega)
  have hown := cell_own h on1 on2
  refine ⟨e x y hx hy, rfl, rfl, n1, n2, by omega, by omega, e _ _ n1 n2, ?_, ?_⟩
  · rw [eX _ _ n1 n2, show cellU k W H t s (x - first W) (y - first H) + first W - first W = cellU k W H t s (x - first W) (y - first H) by omega, show cellV k W H t s (x - first W) (y - first H) + first H - first H = cellV k W H t s (x - first W) (y - first H) by omega, hown.1]
  · rw [eY _ _ n1 n2, show cellU k W H t s (x - first W) (y - first H) + first W - first W = cellU k W H t s (x - first W) (y - first H) by omega, show cellV k W H t s (x - first W) (y - first H) + first H - first H = cellV k W H t s (x - first W) (y - first H) by omega, hown.2]

theorem ring_facts {k W H t s x y : Int} (h : TopoOk k W H t s) (hk : checkE k W H t s = 0) (hg : gluedI k = true) (hx : nearI x = true) (hy : nearI y = true) (he : ringE k W H t s x y = 0) :
    ringB k W H t s x y = true ∧ ringX k W H t s x y = cellX k W H t s x y ∧ ringY k W H t s x y = cellY k W H t s x y := by
  obtain ⟨e0, eX, eY, _⟩ := cell_facts h hk hg hx hy
  have hk1 : k ≠ 1 := by intro e; subst e; revert hg; decide
  have hb : ringB k W H t s x y = true := by unfold ringB; simp [he, hk1]
  refine ⟨hb, ?_, ?_⟩
  · rw [eX]; unfold ringX; rw [if_neg (by simp [hb]), if_pos hg]
  · rw [eY]; unfold ringY; rw [if_neg (by simp [hb]), if_pos hg]

theorem same_facts {k W H t s x y x' y' : Int} (h : TopoOk k W H t s) (hk : checkE k W H t s = 0) (hg : gluedI k = true) (hx : nearI x = true) (hy : nearI y = true) (hx' : nearI x' = true) (hy' : nearI y' = true)
    (c1 : cellX k W H t s x' y' = cellX k W H t s x y) (c2 : cellY k W H t s x' y' = cellY k W H t s x y) : sameE k W H t s x y x' y' = 0 ∧ sameB k W H t s x y x' y' = true := by
  have e1 := (cell_facts h hk hg hx hy).1
  have e2 := (cell_facts h hk hg hx' hy').1
  have e : sameE k W H t s x y x' y' = 0 := by
    unfold sameE; rw [if_neg (by simp [hk]), if_neg (by simp [nearP, hx, hy, hx', hy']), if_neg (by simp [e1]), e2]
  exact ⟨e, by unfold sameB; rw [e, c1, c2]; simp⟩

/-- a step along a gluing map, or back, keeps the cell -/
theorem step_facts {k W H t s qx qy : Int} {m : Mv} (b : Bool) (h : TopoOk k W H t s) (hk : checkE k W H t s = 0) (hg : gluedI k = true) (hm : m ∈ glueL k W H t s) (hx : nearI qx = true) (hy : nearI qy = true)
    (hx' : nearI (fwdX (if b = true then bckM m else m) qx qy) = true) (hy' : nearI (fwdY (if b = true then bckM m else m) qx qy) = true) :
    cellX k W H t s (fwdX (if b = true then bckM m else m) qx qy) (fwdY (if b = true then bckM m else m) qx qy) = cellX k W H t s qx qy ∧ cellY k W H t s (fwdX (if b = true then bckM m else m) qx qy) (fwdY (if b = true then bckM m else m) qx qy) = cellY k W H t s qx qy := by
  obtain ⟨_, a1, a2, _⟩ := cell_facts h hk hg hx hy
  obtain ⟨_, b1, b2, _⟩ := cell_facts h hk hg hx' hy'
  rw [a1, a2, b1, b2]
  cases b
  · have := keep_fwd h hg hm qx qy
    exact ⟨by rw [show (if false = true then bckM m else m) = m from rfl, this.1], by rw [show (if false = true then bckM m else m) = m from rfl, this.2]⟩
  · have := keep_bck h hg hm qx qy
    exact ⟨by rw [show (if true = true then bckM m else m) = bckM m from rfl, this.1], by rw [show (if true = true then bckM m else m) = bckM m from rfl, this.2]⟩
end Go.Proofs.Ytfdehecekghlmaa
