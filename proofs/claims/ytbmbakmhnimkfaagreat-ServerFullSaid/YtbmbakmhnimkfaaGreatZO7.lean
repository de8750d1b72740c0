/- The ways of the setups, checked. -/
import Derived.Test.YtbmbakmhnimkfaaGreatZN
set_option linter.unusedSimpArgs false
set_option linter.unusedVariables false
namespace Go.Proofs.YtbmbakmhnimkfaaGreat.U
open Go Go.Eng Go.RowKit
set_option maxRecDepth 100000
theorem okw28 : okW lw_A28 = true := by kernel_rfl
theorem okw29 : okW lw_A29 = true := by kernel_rfl
theorem okw30 : okW lw_A30 = true := by kernel_rfl
theorem okw31 : okW lw_A31 = true := by kernel_rfl
end Go.Proofs.YtbmbakmhnimkfaaGreat.U
