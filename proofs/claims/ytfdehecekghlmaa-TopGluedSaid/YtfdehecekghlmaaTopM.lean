/- The plain law of ways along the gluing maps: each step, and each step back, keeps the cell. -/
import Derived.Test.YtfdehecekghlmaaKeepM
import Derived.Test.YtfdehecekghlmaaIsoF
set_option linter.unusedVariables false
set_option linter.unusedSimpArgs false
namespace Go.Proofs.Ytfdehecekghlmaa
open Go.RowKit Go.Viv

def fwdX (m : Mv) (x y : Int) : Int := linX m.k m.f x y + m.x
def fwdY (m : Mv) (x y : Int) : Int := linY m.k m.f x y + m.y
/-- what takes back -/
def bckM (m : Mv) : Mv := ⟨backK m.k m.f, m.f, -(linX (backK m.k m.f) m.f m.x m.y), -(linY (backK m.k m.f) m.f m.x m.y)⟩

theorem glue_form {k W H t s : Int} {m : Mv} (hm : m ∈ glueL k W H t s) : (m.k = 0 ∧ m.f = false) ∨ (m.k = 0 ∧ m.f = true) ∨ (m.k = 2 ∧ m.f = true) := by
  unfold glueL at hm
  split at hm
  · simp at hm
  · simp only [List.mem_append] at hm
    rcases hm with hm | hm
    · split at hm
      · simp at hm; subst hm; unfold glueX; split <;> simp
      · simp at hm
    · split at hm
      · simp at hm; subst hm; unfold glueY; split <;> simp
      · simp at hm

theorem fwd_bck {k W H t s : Int} {m : Mv} (hm : m ∈ glueL k W H t s) (x y : Int) : fwdX m (fwdX (bckM m) x y) (fwdY (bckM m) x y) = x ∧ fwdY m (fwdX (bckM m) x y) (fwdY (bckM m) x y) = y := by
  obtain ⟨mk, mf, mx, my⟩ := m
  rcases glue_form hm with ⟨h1, h2⟩ | ⟨h1, h2⟩ | ⟨h1, h2⟩ <;> simp only at h1 h2 <;> subst h1 <;> subst h2 <;>
    simp [fwdX, fwdY, bckM, backK, linX, linY, qre, qim] <;> omega

theorem keep_fwd {k W H t s : Int} {m : Mv} (h : TopoOk k W H t s) (hg : gluedI k = true) (hm : m ∈ glueL k W H t s) (x y : Int) :
    cellU k W H t s (fwdX m x y - first W) (fwdY m x y - first H) = cellU k W H t s (x - first W) (y - first H) ∧
      cellV k W H t s (fwdX m x y - first W) (fwdY m x y - first H) = cellV k W H t s (x - first W) (y - first H) := by
  unfold glueL at hm
  split at hm
  · simp at hm
  · simp only [List.mem_append] at hm
    rcases hm with hm | hm
    · split at hm
      · rename_i hW
        simp at hm; subst hm
        have kx := keepX (u := x - first W) (v := y - first H) h hg hW
        dsimp only at kx
        have ex : fwdX (glueX k W H t s) x y - first W = x - first W + W := by
          unfold fwdX glueX; split <;> simp [linX, qre, qim] <;> omega
        have ey : fwdY (glueX k W H t s) x y - first H = (if k = 4 ∨ (k = 3 ∧ t = 2) then H - 1 + (if t = 2 then s else 0) - (y - first H) else (y - first H) + (if t = 2 then s else 0)) := by
          unfold fwdY glueX; split <;> simp [linY, qre, qim] <;> omega
        rw [ex, ey]
        exact kx
      · simp at hm
    · split at hm
      · rename_i hH
        simp at hm; subst hm
        have ky := keepY (u := x - first W) (v := y - first H) h hg hH
        dsimp only at ky
        have ey : fwdY (glueY k W H t s) x y - first H = y - first H + H := by
          unfold fwdY glueY; split <;> simp [linY, qre, qim] <;> omega
        have ex : fwdX (glueY k W H t s) x y - first W = (if k = 4 ∨ (k = 3 ∧ t = 1) then W - 1 + (if t = 1 then s else 0) - (x - first W) else (x - first W) + (if t = 1 then s else 0)) := by
          unfold fwdX glueY; split <;> simp [linX, qre, qim] <;> omega
        rw [ex, ey]
        exact ky
      · simp at hm

theorem keep_bck {k W H t s : Int} {m : Mv} (h : TopoOk k W H t s) (hg : gluedI k = true) (hm : m ∈ glueL k W H t s) (x y : Int) :
    cellU k W H t s (fwdX (bckM m) x y - first W) (fwdY (bckM m) x y - first H) = cellU k W H t s (x - first W) (y - first H) ∧
      cellV k W H t s (fwdX (bckM m) x y - first W) (fwdY (bckM m) x y - first H) = cellV k W H t s (x - first W) (y - first H) := by
  have h1 := keep_fwd h hg hm (fwdX (bckM m) x y) (fwdY (bckM m) x y)
  obtain ⟨e1, e2⟩ := fwd_bck hm x y
  rw [e1, e2] at h1
  exact ⟨h1.1.symm, h1.2.symm⟩
end Go.Proofs.Ytfdehecekghlmaa
