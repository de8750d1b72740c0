/- The server's own example, run: awake answers true. -/
import Derived.Test.YtbmbakmhnimkfaaGreatZPrims
set_option linter.unusedSimpArgs false
set_option linter.unusedVariables false
namespace Go.Proofs.YtbmbakmhnimkfaaGreat.U
open Go Go.Eng
def awake_a : Pat := ⟨[], [], 0, 0⟩
def awake_z : Pat := ⟨[.bool true], [], 0, 0⟩
def awake_k0 : Cut := ⟨none, [], [], 0, 0, .lf (.ret ⟨[], [], [], [], true⟩)⟩
def awake_f : CFn := ⟨17, awake_a, awake_z, [awake_k0], 0⟩
theorem awake_ok (u : Nat → Value) : awake_f.okU (P := Tryz.prog) [] ⟨252, 254, 367⟩ prA u = true := by kernel_rfl
noncomputable def awake_c : Ctr Tryz.prog := CFn.ctr0 pok prA_ok [] awake_f rfl awake_ok (by kernel_rfl) ⟨_, rfl, rfl, rfl, rfl, rfl, rfl⟩ (.inl rfl)
end Go.Proofs.YtbmbakmhnimkfaaGreat.U
