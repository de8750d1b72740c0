/- The law: its cut points, checked. -/
import Derived.Test.YtgddinljekkhdaaGreatZB
set_option linter.unusedSimpArgs false
set_option linter.unusedVariables false
namespace Go.Proofs.YtgddinljekkhdaaGreat.U
open Go Go.Eng
set_option maxRecDepth 100000
theorem lw_ok12 (u : Nat → Value) : cutU (P := Tryz.prog) lw_d ⟨440, 442, 240⟩ prA lw_f u lw_k12 = true := by kernel_rfl
theorem lw_ok13 (u : Nat → Value) : cutU (P := Tryz.prog) lw_d ⟨440, 442, 240⟩ prA lw_f u lw_k13 = true := by kernel_rfl
theorem lw_ok14 (u : Nat → Value) : cutU (P := Tryz.prog) lw_d ⟨440, 442, 240⟩ prA lw_f u lw_k14 = true := by kernel_rfl
theorem lw_ok15 (u : Nat → Value) : cutU (P := Tryz.prog) lw_d ⟨440, 442, 240⟩ prA lw_f u lw_k15 = true := by kernel_rfl
theorem lw_ok16 (u : Nat → Value) : cutU (P := Tryz.prog) lw_d ⟨440, 442, 240⟩ prA lw_f u lw_k16 = true := by kernel_rfl
theorem lw_ok17 (u : Nat → Value) : cutU (P := Tryz.prog) lw_d ⟨440, 442, 240⟩ prA lw_f u lw_k17 = true := by kernel_rfl
theorem lw_ok18 (u : Nat → Value) : cutU (P := Tryz.prog) lw_d ⟨440, 442, 240⟩ prA lw_f u lw_k18 = true := by kernel_rfl
theorem lw_ok19 (u : Nat → Value) : cutU (P := Tryz.prog) lw_d ⟨440, 442, 240⟩ prA lw_f u lw_k19 = true := by kernel_rfl
theorem lw_ok20 (u : Nat → Value) : cutU (P := Tryz.prog) lw_d ⟨440, 442, 240⟩ prA lw_f u lw_k20 = true := by kernel_rfl
theorem lw_ok21 (u : Nat → Value) : cutU (P := Tryz.prog) lw_d ⟨440, 442, 240⟩ prA lw_f u lw_k21 = true := by kernel_rfl
theorem lw_ok22 (u : Nat → Value) : cutU (P := Tryz.prog) lw_d ⟨440, 442, 240⟩ prA lw_f u lw_k22 = true := by kernel_rfl
theorem lw_ok23 (u : Nat → Value) : cutU (P := Tryz.prog) lw_d ⟨440, 442, 240⟩ prA lw_f u lw_k23 = true := by kernel_rfl
end Go.Proofs.YtgddinljekkhdaaGreat.U
