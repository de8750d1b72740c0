/- The ways of the setups, checked. -/
import Derived.Test.YtbmbakmhnimkfaaGreatZN
set_option linter.unusedSimpArgs false
set_option linter.unusedVariables false
namespace Go.Proofs.YtbmbakmhnimkfaaGreat.U
open Go Go.Eng Go.RowKit
set_option maxRecDepth 100000
theorem okw20 : okW lw_A20 = true := by kernel_rfl
theorem okw21 : okW lw_A21 = true := by kernel_rfl
theorem okw22 : okW lw_A22 = true := by kernel_rfl
theorem okw23 : okW lw_A23 = true := by kernel_rfl
end Go.Proofs.YtbmbakmhnimkfaaGreat.U
