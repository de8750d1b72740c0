/- The ways of the setups, checked. -/
import Derived.Test.YtbmbakmhnimkfaaGreatZN
set_option linter.unusedSimpArgs false
set_option linter.unusedVariables false
namespace Go.Proofs.YtbmbakmhnimkfaaGreat.U
open Go Go.Eng Go.RowKit
set_option maxRecDepth 100000
theorem okw12 : okW lw_A12 = true := by kernel_rfl
theorem okw13 : okW lw_A13 = true := by kernel_rfl
theorem okw14 : okW lw_A14 = true := by kernel_rfl
theorem okw15 : okW lw_A15 = true := by kernel_rfl
end Go.Proofs.YtbmbakmhnimkfaaGreat.U
