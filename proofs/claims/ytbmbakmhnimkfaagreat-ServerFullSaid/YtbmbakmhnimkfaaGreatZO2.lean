/- The ways of the setups, checked. -/
import Derived.Test.YtbmbakmhnimkfaaGreatZN
set_option linter.unusedSimpArgs false
set_option linter.unusedVariables false
namespace Go.Proofs.YtbmbakmhnimkfaaGreat.U
open Go Go.Eng Go.RowKit
set_option maxRecDepth 100000
theorem okw8 : okW lw_A8 = true := by kernel_rfl
theorem okw9 : okW lw_A9 = true := by kernel_rfl
theorem okw10 : okW lw_A10 = true := by kernel_rfl
theorem okw11 : okW lw_A11 = true := by kernel_rfl
end Go.Proofs.YtbmbakmhnimkfaaGreat.U
