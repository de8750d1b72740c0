/- The law: its cut points, checked. -/
import Derived.Test.YtbmbakmhnimkfaaGreatZB
import Derived.Test.YtbmbakmhnimkfaaGreatEngX5
set_option linter.unusedSimpArgs false
set_option linter.unusedVariables false
namespace Go.Proofs.YtbmbakmhnimkfaaGreat.U
open Go Go.Eng
set_option maxRecDepth 100000
theorem lw_ok61 (u : Nat → Value) : cutU (P := Tryz.prog) lw_d ⟨252, 254, 367⟩ prA lw_f u lw_k61 = true := by kernel_rfl
theorem lw_ok62 (u : Nat → Value) : cutU (P := Tryz.prog) lw_d ⟨252, 254, 367⟩ prA lw_f u lw_k62 = true := by kernel_rfl
theorem lw_ok63 (u : Nat → Value) : cutU (P := Tryz.prog) lw_d ⟨252, 254, 367⟩ prA lw_f u lw_k63 = true := by kernel_rfl
theorem lw_ok64 (u : Nat → Value) : cutU (P := Tryz.prog) lw_d ⟨252, 254, 367⟩ prA lw_f u lw_k64 = true := by kernel_rfl
end Go.Proofs.YtbmbakmhnimkfaaGreat.U
