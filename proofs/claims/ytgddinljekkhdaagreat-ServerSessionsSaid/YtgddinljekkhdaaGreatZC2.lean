/- The law: its cut points, checked. -/
import Derived.Test.YtgddinljekkhdaaGreatZB
set_option linter.unusedSimpArgs false
set_option linter.unusedVariables false
namespace Go.Proofs.YtgddinljekkhdaaGreat.U
open Go Go.Eng
set_option maxRecDepth 100000
theorem lw_ok24 (u : Nat → Value) : cutU (P := Tryz.prog) lw_d ⟨440, 442, 240⟩ prA lw_f u lw_k24 = true := by kernel_rfl
theorem lw_ok25 (u : Nat → Value) : cutU (P := Tryz.prog) lw_d ⟨440, 442, 240⟩ prA lw_f u lw_k25 = true := by kernel_rfl
theorem lw_ok26 (u : Nat → Value) : cutU (P := Tryz.prog) lw_d ⟨440, 442, 240⟩ prA lw_f u lw_k26 = true := by kernel_rfl
theorem lw_ok27 (u : Nat → Value) : cutU (P := Tryz.prog) lw_d ⟨440, 442, 240⟩ prA lw_f u lw_k27 = true := by kernel_rfl
theorem lw_ok28 (u : Nat → Value) : cutU (P := Tryz.prog) lw_d ⟨440, 442, 240⟩ prA lw_f u lw_k28 = true := by kernel_rfl
theorem lw_ok29 (u : Nat → Value) : cutU (P := Tryz.prog) lw_d ⟨440, 442, 240⟩ prA lw_f u lw_k29 = true := by kernel_rfl
theorem lw_ok30 (u : Nat → Value) : cutU (P := Tryz.prog) lw_d ⟨440, 442, 240⟩ prA lw_f u lw_k30 = true := by kernel_rfl
theorem lw_ok31 (u : Nat → Value) : cutU (P := Tryz.prog) lw_d ⟨440, 442, 240⟩ prA lw_f u lw_k31 = true := by kernel_rfl
theorem lw_ok32 (u : Nat → Value) : cutU (P := Tryz.prog) lw_d ⟨440, 442, 240⟩ prA lw_f u lw_k32 = true := by kernel_rfl
theorem lw_ok33 (u : Nat → Value) : cutU (P := Tryz.prog) lw_d ⟨440, 442, 240⟩ prA lw_f u lw_k33 = true := by kernel_rfl
theorem lw_ok34 (u : Nat → Value) : cutU (P := Tryz.prog) lw_d ⟨440, 442, 240⟩ prA lw_f u lw_k34 = true := by kernel_rfl
theorem lw_ok35 (u : Nat → Value) : cutU (P := Tryz.prog) lw_d ⟨440, 442, 240⟩ prA lw_f u lw_k35 = true := by kernel_rfl
end Go.Proofs.YtgddinljekkhdaaGreat.U
