/- The law: the ways of its setups, checked. -/
import Derived.Test.YtbmbakmhnimkfaaGreatZB
import Derived.Test.YtbmbakmhnimkfaaGreatEngX5
set_option linter.unusedSimpArgs false
set_option linter.unusedVariables false
namespace Go.Proofs.YtbmbakmhnimkfaaGreat.U
open Go Go.Eng
set_option maxRecDepth 100000
theorem lw_w16 (u : Nat → Value) : wayU (lw_d.map Ctr.cd) (leafF Tryz.prog ⟨252, 254, 367⟩ prA lw_f u lw_k0) ⟨2, 0, [], [], [], []⟩ lw_S 22 lw_A16 = true := by kernel_rfl
theorem lw_w17 (u : Nat → Value) : wayU (lw_d.map Ctr.cd) (leafF Tryz.prog ⟨252, 254, 367⟩ prA lw_f u lw_k0) ⟨2, 0, [], [], [], []⟩ lw_S 23 lw_A17 = true := by kernel_rfl
theorem lw_w18 (u : Nat → Value) : wayU (lw_d.map Ctr.cd) (leafF Tryz.prog ⟨252, 254, 367⟩ prA lw_f u lw_k0) ⟨2, 0, [], [], [], []⟩ lw_S 24 lw_A18 = true := by kernel_rfl
theorem lw_w19 (u : Nat → Value) : wayU (lw_d.map Ctr.cd) (leafF Tryz.prog ⟨252, 254, 367⟩ prA lw_f u lw_k0) ⟨2, 0, [], [], [], []⟩ lw_S 25 lw_A19 = true := by kernel_rfl
end Go.Proofs.YtbmbakmhnimkfaaGreat.U
