/- The ways of the setups, checked. -/
import Derived.Test.YtbmbakmhnimkfaaGreatZN
set_option linter.unusedSimpArgs false
set_option linter.unusedVariables false
namespace Go.Proofs.YtbmbakmhnimkfaaGreat.U
open Go Go.Eng Go.RowKit
set_option maxRecDepth 100000
theorem okw0 : okW lw_A0 = true := by kernel_rfl
theorem okw1 : okW lw_A1 = true := by kernel_rfl
theorem okw2 : okW lw_A2 = true := by kernel_rfl
theorem okw3 : okW lw_A3 = true := by kernel_rfl
end Go.Proofs.YtbmbakmhnimkfaaGreat.U
