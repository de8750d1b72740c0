/- The law: its cut points, checked. -/
import Derived.Test.YtbmbakmhnimkfaaGreatZB
import Derived.Test.YtbmbakmhnimkfaaGreatEngX5
set_option linter.unusedSimpArgs false
set_option linter.unusedVariables false
namespace Go.Proofs.YtbmbakmhnimkfaaGreat.U
open Go Go.Eng
set_option maxRecDepth 100000
theorem lw_ok45 (u : Nat → Value) : cutU (P := Tryz.prog) lw_d ⟨252, 254, 367⟩ prA lw_f u lw_k45 = true := by kernel_rfl
theorem lw_ok46 (u : Nat → Value) : cutU (P := Tryz.prog) lw_d ⟨252, 254, 367⟩ prA lw_f u lw_k46 = true := by kernel_rfl
theorem lw_ok47 (u : Nat → Value) : cutU (P := Tryz.prog) lw_d ⟨252, 254, 367⟩ prA lw_f u lw_k47 = true := by kernel_rfl
theorem lw_ok48 (u : Nat → Value) : cutU (P := Tryz.prog) lw_d ⟨252, 254, 367⟩ prA lw_f u lw_k48 = true := by kernel_rfl
end Go.Proofs.YtbmbakmhnimkfaaGreat.U
