/- The law: the ways of its setups, checked. -/
import Derived.Test.YtbmbakmhnimkfaaGreatZB
import Derived.Test.YtbmbakmhnimkfaaGreatEngX5
set_option linter.unusedSimpArgs false
set_option linter.unusedVariables false
namespace Go.Proofs.YtbmbakmhnimkfaaGreat.U
open Go Go.Eng
set_option maxRecDepth 100000
theorem lw_w4 (u : Nat → Value) : wayU (lw_d.map Ctr.cd) (leafF Tryz.prog ⟨252, 254, 367⟩ prA lw_f u lw_k0) ⟨2, 0, [], [], [], []⟩ lw_S 10 lw_A4 = true := by kernel_rfl
theorem lw_w5 (u : Nat → Value) : wayU (lw_d.map Ctr.cd) (leafF Tryz.prog ⟨252, 254, 367⟩ prA lw_f u lw_k0) ⟨2, 0, [], [], [], []⟩ lw_S 11 lw_A5 = true := by kernel_rfl
theorem lw_w6 (u : Nat → Value) : wayU (lw_d.map Ctr.cd) (leafF Tryz.prog ⟨252, 254, 367⟩ prA lw_f u lw_k0) ⟨2, 0, [], [], [], []⟩ lw_S 12 lw_A6 = true := by kernel_rfl
theorem lw_w7 (u : Nat → Value) : wayU (lw_d.map Ctr.cd) (leafF Tryz.prog ⟨252, 254, 367⟩ prA lw_f u lw_k0) ⟨2, 0, [], [], [], []⟩ lw_S 13 lw_A7 = true := by kernel_rfl
end Go.Proofs.YtbmbakmhnimkfaaGreat.U
