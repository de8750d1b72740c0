/- The law: its cut points, checked. -/
import Derived.Test.YtbmbakmhnimkfaaGreatZB
import Derived.Test.YtbmbakmhnimkfaaGreatEngX5
set_option linter.unusedSimpArgs false
set_option linter.unusedVariables false
namespace Go.Proofs.YtbmbakmhnimkfaaGreat.U
open Go Go.Eng
set_option maxRecDepth 100000
theorem lw_ok57 (u : Nat → Value) : cutU (P := Tryz.prog) lw_d ⟨252, 254, 367⟩ prA lw_f u lw_k57 = true := by kernel_rfl
theorem lw_ok58 (u : Nat → Value) : cutU (P := Tryz.prog) lw_d ⟨252, 254, 367⟩ prA lw_f u lw_k58 = true := by kernel_rfl
theorem lw_ok59 (u : Nat → Value) : cutU (P := Tryz.prog) lw_d ⟨252, 254, 367⟩ prA lw_f u lw_k59 = true := by kernel_rfl
theorem lw_ok60 (u : Nat → Value) : cutU (P := Tryz.prog) lw_d ⟨252, 254, 367⟩ prA lw_f u lw_k60 = true := by kernel_rfl
end Go.Proofs.YtbmbakmhnimkfaaGreat.U
