/- The ways of the setups, checked. -/
import Derived.Test.YtbmbakmhnimkfaaGreatZN
set_option linter.unusedSimpArgs false
set_option linter.unusedVariables false
namespace Go.Proofs.YtbmbakmhnimkfaaGreat.U
open Go Go.Eng Go.RowKit
set_option maxRecDepth 100000
theorem okw16 : okW lw_A16 = true := by kernel_rfl
theorem okw17 : okW lw_A17 = true := by kernel_rfl
theorem okw18 : okW lw_A18 = true := by kernel_rfl
theorem okw19 : okW lw_A19 = true := by kernel_rfl
end Go.Proofs.YtbmbakmhnimkfaaGreat.U
