/- Box, by the contract of what goes through the living cells. -/
import Derived.Test.YtdpcmpfhjhbicaaFPop
import Derived.Test.YtdpcmpfhjhbicaaFBoxM
set_option linter.unusedVariables false
set_option linter.unusedSimpArgs false
namespace Go.Proofs.Ytdpcmpfhjhbicaa
open Go.RowKit Go.Shelf Go.Viv
attribute [local go_sem] Oper.semAt_some
end Go.Proofs.Ytdpcmpfhjhbicaa
