/- The law: its cut points, checked. -/
import Derived.Test.YtgddinljekkhdaaGreatZB
set_option linter.unusedSimpArgs false
set_option linter.unusedVariables false
namespace Go.Proofs.YtgddinljekkhdaaGreat.U
open Go Go.Eng
set_option maxRecDepth 100000
theorem lw_ok0 (u : Nat → Value) : cutU (P := Tryz.prog) lw_d ⟨440, 442, 240⟩ prA lw_f u lw_k0 = true := by kernel_rfl
theorem lw_ok1 (u : Nat → Value) : cutU (P := Tryz.prog) lw_d ⟨440, 442, 240⟩ prA lw_f u lw_k1 = true := by kernel_rfl
theorem lw_ok2 (u : Nat → Value) : cutU (P := Tryz.prog) lw_d ⟨440, 442, 240⟩ prA lw_f u lw_k2 = true := by kernel_rfl
theorem lw_ok3 (u : Nat → Value) : cutU (P := Tryz.prog) lw_d ⟨440, 442, 240⟩ prA lw_f u lw_k3 = true := by kernel_rfl
theorem lw_ok4 (u : Nat → Value) : cutU (P := Tryz.prog) lw_d ⟨440, 442, 240⟩ prA lw_f u lw_k4 = true := by kernel_rfl
theorem lw_ok5 (u : Nat → Value) : cutU (P := Tryz.prog) lw_d ⟨440, 442, 240⟩ prA lw_f u lw_k5 = true := by kernel_rfl
theorem lw_ok6 (u : Nat → Value) : cutU (P := Tryz.prog) lw_d ⟨440, 442, 240⟩ prA lw_f u lw_k6 = true := by kernel_rfl
theorem lw_ok7 (u : Nat → Value) : cutU (P := Tryz.prog) lw_d ⟨440, 442, 240⟩ prA lw_f u lw_k7 = true := by kernel_rfl
theorem lw_ok8 (u : Nat → Value) : cutU (P := Tryz.prog) lw_d ⟨440, 442, 240⟩ prA lw_f u lw_k8 = true := by kernel_rfl
theorem lw_ok9 (u : Nat → Value) : cutU (P := Tryz.prog) lw_d ⟨440, 442, 240⟩ prA lw_f u lw_k9 = true := by kernel_rfl
theorem lw_ok10 (u : Nat → Value) : cutU (P := Tryz.prog) lw_d ⟨440, 442, 240⟩ prA lw_f u lw_k10 = true := by kernel_rfl
theorem lw_ok11 (u : Nat → Value) : cutU (P := Tryz.prog) lw_d ⟨440, 442, 240⟩ prA lw_f u lw_k11 = true := by kernel_rfl
end Go.Proofs.YtgddinljekkhdaaGreat.U
