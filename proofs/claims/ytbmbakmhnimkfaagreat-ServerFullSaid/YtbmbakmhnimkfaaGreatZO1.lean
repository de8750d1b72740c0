/- The ways of the setups, checked. -/
import Derived.Test.YtbmbakmhnimkfaaGreatZN
set_option linter.unusedSimpArgs false
set_option linter.unusedVariables false
namespace Go.Proofs.YtbmbakmhnimkfaaGreat.U
open Go Go.Eng Go.RowKit
set_option maxRecDepth 100000
theorem okw4 : okW lw_A4 = true := by kernel_rfl
theorem okw5 : okW lw_A5 = true := by kernel_rfl
theorem okw6 : okW lw_A6 = true := by kernel_rfl
theorem okw7 : okW lw_A7 = true := by kernel_rfl
end Go.Proofs.YtbmbakmhnimkfaaGreat.U
