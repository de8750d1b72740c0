/- The law: its cut points, checked. -/
import Derived.Test.YtgddinljekkhdaaGreatZB
set_option linter.unusedSimpArgs false
set_option linter.unusedVariables false
namespace Go.Proofs.YtgddinljekkhdaaGreat.U
open Go Go.Eng
set_option maxRecDepth 100000
theorem lw_ok84 (u : Nat → Value) : cutU (P := Tryz.prog) lw_d ⟨440, 442, 240⟩ prA lw_f u lw_k84 = true := by kernel_rfl
theorem lw_ok85 (u : Nat → Value) : cutU (P := Tryz.prog) lw_d ⟨440, 442, 240⟩ prA lw_f u lw_k85 = true := by kernel_rfl
theorem lw_ok86 (u : Nat → Value) : cutU (P := Tryz.prog) lw_d ⟨440, 442, 240⟩ prA lw_f u lw_k86 = true := by kernel_rfl
theorem lw_ok87 (u : Nat → Value) : cutU (P := Tryz.prog) lw_d ⟨440, 442, 240⟩ prA lw_f u lw_k87 = true := by kernel_rfl
theorem lw_ok88 (u : Nat → Value) : cutU (P := Tryz.prog) lw_d ⟨440, 442, 240⟩ prA lw_f u lw_k88 = true := by kernel_rfl
theorem lw_ok89 (u : Nat → Value) : cutU (P := Tryz.prog) lw_d ⟨440, 442, 240⟩ prA lw_f u lw_k89 = true := by kernel_rfl
theorem lw_ok90 (u : Nat → Value) : cutU (P := Tryz.prog) lw_d ⟨440, 442, 240⟩ prA lw_f u lw_k90 = true := by kernel_rfl
theorem lw_ok91 (u : Nat → Value) : cutU (P := Tryz.prog) lw_d ⟨440, 442, 240⟩ prA lw_f u lw_k91 = true := by kernel_rfl
theorem lw_ok92 (u : Nat → Value) : cutU (P := Tryz.prog) lw_d ⟨440, 442, 240⟩ prA lw_f u lw_k92 = true := by kernel_rfl
end Go.Proofs.YtgddinljekkhdaaGreat.U
