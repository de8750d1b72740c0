/- The law: the ways of its setups, checked. -/
import Derived.Test.YtbmbakmhnimkfaaGreatZB
import Derived.Test.YtbmbakmhnimkfaaGreatEngX5
set_option linter.unusedSimpArgs false
set_option linter.unusedVariables false
namespace Go.Proofs.YtbmbakmhnimkfaaGreat.U
open Go Go.Eng
set_option maxRecDepth 100000
theorem lw_w20 (u : Nat → Value) : wayU (lw_d.map Ctr.cd) (leafF Tryz.prog ⟨252, 254, 367⟩ prA lw_f u lw_k0) ⟨2, 0, [], [], [], []⟩ lw_S 26 lw_A20 = true := by kernel_rfl
theorem lw_w21 (u : Nat → Value) : wayU (lw_d.map Ctr.cd) (leafF Tryz.prog ⟨252, 254, 367⟩ prA lw_f u lw_k0) ⟨2, 0, [], [], [], []⟩ lw_S 27 lw_A21 = true := by kernel_rfl
theorem lw_w22 (u : Nat → Value) : wayU (lw_d.map Ctr.cd) (leafF Tryz.prog ⟨252, 254, 367⟩ prA lw_f u lw_k0) ⟨2, 0, [], [], [], []⟩ lw_S 28 lw_A22 = true := by kernel_rfl
theorem lw_w23 (u : Nat → Value) : wayU (lw_d.map Ctr.cd) (leafF Tryz.prog ⟨252, 254, 367⟩ prA lw_f u lw_k0) ⟨2, 0, [], [], [], []⟩ lw_S 29 lw_A23 = true := by kernel_rfl
end Go.Proofs.YtbmbakmhnimkfaaGreat.U
