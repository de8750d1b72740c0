/- The law: its cut points, checked. -/
import Derived.Test.YtbmbakmhnimkfaaGreatZB
import Derived.Test.YtbmbakmhnimkfaaGreatEngX5
set_option linter.unusedSimpArgs false
set_option linter.unusedVariables false
namespace Go.Proofs.YtbmbakmhnimkfaaGreat.U
open Go Go.Eng
set_option maxRecDepth 100000
theorem lw_ok53 (u : Nat → Value) : cutU (P := Tryz.prog) lw_d ⟨252, 254, 367⟩ prA lw_f u lw_k53 = true := by kernel_rfl
theorem lw_ok54 (u : Nat → Value) : cutU (P := Tryz.prog) lw_d ⟨252, 254, 367⟩ prA lw_f u lw_k54 = true := by kernel_rfl
theorem lw_ok55 (u : Nat → Value) : cutU (P := Tryz.prog) lw_d ⟨252, 254, 367⟩ prA lw_f u lw_k55 = true := by kernel_rfl
theorem lw_ok56 (u : Nat → Value) : cutU (P := Tryz.prog) lw_d ⟨252, 254, 367⟩ prA lw_f u lw_k56 = true := by kernel_rfl
end Go.Proofs.YtbmbakmhnimkfaaGreat.U
