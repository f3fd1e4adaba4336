/- The walk of the law FoldSteps, both ways. -/
import Derived.Test.YtfdehecekghlmaaSteps2
set_option linter.unusedVariables false
namespace Go.Proofs.Ytfdehecekghlmaa
open Go.RowKit Go.Viv
theorem FoldSteps_walk {k W H t s x y dx dy : Int} (w : World) (bk : 0 ≤ k ∧ k ≤ 255) (bW : -9223372036854775808 ≤ W ∧ W ≤ 9223372036854775807) (bH : -9223372036854775808 ≤ H ∧ H ≤ 9223372036854775807) (bt : 0 ≤ t ∧ t ≤ 255) (bs : -9223372036854775808 ≤ s ∧ s ≤ 9223372036854775807) (bx : -9223372036854775808 ≤ x ∧ x ≤ 9223372036854775807) (by_ : -9223372036854775808 ≤ y ∧ y ≤ 9223372036854775807) (bdx : -9223372036854775808 ≤ dx ∧ dx ≤ 9223372036854775807) (bdy : -9223372036854775808 ≤ dy ∧ dy ≤ 9223372036854775807) :
    Calls Try.prog 8 #[topoV k W H t s, pt x y, .int .i64 dx, .int .i64 dy] w (Ret (.bool true) w) := by
  cases h : lgl k W H t s
  · exact FoldSteps_no w bt.1 h
  · exact FoldSteps_yes w bk bW bH bt bs bx by_ bdx bdy h
end Go.Proofs.Ytfdehecekghlmaa
