/- The law: the ways of its setups, checked. -/
import Derived.Test.YtbmbakmhnimkfaaGreatZB
import Derived.Test.YtbmbakmhnimkfaaGreatEngX5
set_option linter.unusedSimpArgs false
set_option linter.unusedVariables false
namespace Go.Proofs.YtbmbakmhnimkfaaGreat.U
open Go Go.Eng
set_option maxRecDepth 100000
theorem lw_w0 (u : Nat → Value) : wayU (lw_d.map Ctr.cd) (leafF Tryz.prog ⟨252, 254, 367⟩ prA lw_f u lw_k0) ⟨2, 0, [], [], [], []⟩ lw_S 0 lw_A0 = true := by kernel_rfl
theorem lw_w1 (u : Nat → Value) : wayU (lw_d.map Ctr.cd) (leafF Tryz.prog ⟨252, 254, 367⟩ prA lw_f u lw_k0) ⟨2, 0, [], [], [], []⟩ lw_S 7 lw_A1 = true := by kernel_rfl
theorem lw_w2 (u : Nat → Value) : wayU (lw_d.map Ctr.cd) (leafF Tryz.prog ⟨252, 254, 367⟩ prA lw_f u lw_k0) ⟨2, 0, [], [], [], []⟩ lw_S 8 lw_A2 = true := by kernel_rfl
theorem lw_w3 (u : Nat → Value) : wayU (lw_d.map Ctr.cd) (leafF Tryz.prog ⟨252, 254, 367⟩ prA lw_f u lw_k0) ⟨2, 0, [], [], [], []⟩ lw_S 9 lw_A3 = true := by kernel_rfl
end Go.Proofs.YtbmbakmhnimkfaaGreat.U
