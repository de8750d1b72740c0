/- The ways of the setups, checked. -/
import Derived.Test.YtbmbakmhnimkfaaGreatZN
set_option linter.unusedSimpArgs false
set_option linter.unusedVariables false
namespace Go.Proofs.YtbmbakmhnimkfaaGreat.U
open Go Go.Eng Go.RowKit
set_option maxRecDepth 100000
theorem okw24 : okW lw_A24 = true := by kernel_rfl
theorem okw25 : okW lw_A25 = true := by kernel_rfl
theorem okw26 : okW lw_A26 = true := by kernel_rfl
theorem okw27 : okW lw_A27 = true := by kernel_rfl
end Go.Proofs.YtbmbakmhnimkfaaGreat.U
