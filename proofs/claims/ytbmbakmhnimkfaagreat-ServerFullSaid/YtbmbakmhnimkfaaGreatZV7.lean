/- The law: the ways of its setups, checked. -/
import Derived.Test.YtbmbakmhnimkfaaGreatZB
import Derived.Test.YtbmbakmhnimkfaaGreatEngX5
set_option linter.unusedSimpArgs false
set_option linter.unusedVariables false
namespace Go.Proofs.YtbmbakmhnimkfaaGreat.U
open Go Go.Eng
set_option maxRecDepth 100000
theorem lw_w28 (u : Nat → Value) : wayU (lw_d.map Ctr.cd) (leafF Tryz.prog ⟨252, 254, 367⟩ prA lw_f u lw_k0) ⟨2, 0, [], [], [], []⟩ lw_S 34 lw_A28 = true := by kernel_rfl
theorem lw_w29 (u : Nat → Value) : wayU (lw_d.map Ctr.cd) (leafF Tryz.prog ⟨252, 254, 367⟩ prA lw_f u lw_k0) ⟨2, 0, [], [], [], []⟩ lw_S 35 lw_A29 = true := by kernel_rfl
theorem lw_w30 (u : Nat → Value) : wayU (lw_d.map Ctr.cd) (leafF Tryz.prog ⟨252, 254, 367⟩ prA lw_f u lw_k0) ⟨2, 0, [], [], [], []⟩ lw_S 36 lw_A30 = true := by kernel_rfl
theorem lw_w31 (u : Nat → Value) : wayU (lw_d.map Ctr.cd) (leafF Tryz.prog ⟨252, 254, 367⟩ prA lw_f u lw_k0) ⟨2, 0, [], [], [], []⟩ lw_S 37 lw_A31 = true := by kernel_rfl
end Go.Proofs.YtbmbakmhnimkfaaGreat.U
