/- The law: its cut points, checked. -/
import Derived.Test.YtgddinljekkhdaaGreatZB
set_option linter.unusedSimpArgs false
set_option linter.unusedVariables false
namespace Go.Proofs.YtgddinljekkhdaaGreat.U
open Go Go.Eng
set_option maxRecDepth 100000
theorem lw_ok60 (u : Nat → Value) : cutU (P := Tryz.prog) lw_d ⟨440, 442, 240⟩ prA lw_f u lw_k60 = true := by kernel_rfl
theorem lw_ok61 (u : Nat → Value) : cutU (P := Tryz.prog) lw_d ⟨440, 442, 240⟩ prA lw_f u lw_k61 = true := by kernel_rfl
theorem lw_ok62 (u : Nat → Value) : cutU (P := Tryz.prog) lw_d ⟨440, 442, 240⟩ prA lw_f u lw_k62 = true := by kernel_rfl
theorem lw_ok63 (u : Nat → Value) : cutU (P := Tryz.prog) lw_d ⟨440, 442, 240⟩ prA lw_f u lw_k63 = true := by kernel_rfl
theorem lw_ok64 (u : Nat → Value) : cutU (P := Tryz.prog) lw_d ⟨440, 442, 240⟩ prA lw_f u lw_k64 = true := by kernel_rfl
theorem lw_ok65 (u : Nat → Value) : cutU (P := Tryz.prog) lw_d ⟨440, 442, 240⟩ prA lw_f u lw_k65 = true := by kernel_rfl
theorem lw_ok66 (u : Nat → Value) : cutU (P := Tryz.prog) lw_d ⟨440, 442, 240⟩ prA lw_f u lw_k66 = true := by kernel_rfl
theorem lw_ok67 (u : Nat → Value) : cutU (P := Tryz.prog) lw_d ⟨440, 442, 240⟩ prA lw_f u lw_k67 = true := by kernel_rfl
theorem lw_ok68 (u : Nat → Value) : cutU (P := Tryz.prog) lw_d ⟨440, 442, 240⟩ prA lw_f u lw_k68 = true := by kernel_rfl
theorem lw_ok69 (u : Nat → Value) : cutU (P := Tryz.prog) lw_d ⟨440, 442, 240⟩ prA lw_f u lw_k69 = true := by kernel_rfl
theorem lw_ok70 (u : Nat → Value) : cutU (P := Tryz.prog) lw_d ⟨440, 442, 240⟩ prA lw_f u lw_k70 = true := by kernel_rfl
theorem lw_ok71 (u : Nat → Value) : cutU (P := Tryz.prog) lw_d ⟨440, 442, 240⟩ prA lw_f u lw_k71 = true := by kernel_rfl
end Go.Proofs.YtgddinljekkhdaaGreat.U
