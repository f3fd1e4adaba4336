/- The plain law of the gluing maps. -/
import Derived.Test.YtfdehecekghlmaaB0
set_option linter.unusedVariables false
set_option linter.unusedSimpArgs false
namespace Go.Viv

/-- a map in whole numbers: how often it turns by a quarter, flipped ahead or not, moved -/
structure Mv where
  k : Int
  f : Bool
  x : Int
  y : Int
deriving DecidableEq

def glueX (k W H t s : Int) : Mv :=
  if k = 4 ∨ (k = 3 ∧ t = 2) then ⟨0, true, W, 2 * first H + H - 1 + (if t = 2 then s else 0)⟩ else ⟨0, false, W, if t = 2 then s else 0⟩
def glueY (k W H t s : Int) : Mv :=
  if k = 4 ∨ (k = 3 ∧ t = 1) then ⟨2, true, 2 * first W + W - 1 + (if t = 1 then s else 0), H⟩ else ⟨0, false, if t = 1 then s else 0, H⟩
def glueL (k W H t s : Int) : List Mv :=
  if checkE k W H t s ≠ 0 ∨ gluedI k = false then []
  else (if 0 < W then [glueX k W H t s] else []) ++ (if 0 < H then [glueY k W H t s] else [])
def glueE (k W H t s : Int) : Int := if checkE k W H t s ≠ 0 then 9 else 0

theorem first_b {W : Int} (h0 : 0 ≤ W) (h1 : W ≤ 65536) : -32768 ≤ first W ∧ first W ≤ 0 := by unfold first; omega

end Go.Viv
