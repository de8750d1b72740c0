/- HistoryRead: its call, at whatever world. -/
import Derived.Test.YtfcjlgdpdomoeaaGreatUX
import Derived.Test.YtfcjlgdpdomoeaaGreatEngS4
set_option linter.unusedSimpArgs false
set_option linter.unusedVariables false
namespace Go.Proofs.YtfcjlgdpdomoeaaGreat.U
open Go Go.Eng Go.RowKit
theorem law1_call {W : World} (b : ByteArray) : Calls Tryz.prog 3 ⟨[.string b]⟩ W fun e w' => e = .returned (.bool true) ∧ Below W.heap.size W w' := by
  have one : [Value.string b].all isOneV = true := rfl
  have hb : bL law1_c.pre [.string b] [] = true := rfl
  refine (law1_c.enter rfl rfl hb (law1_F b.data.toList) one (W := W) (args := [.string b]) ?_).mono ?_
  · exact @VRL.cons (symL _ _ one) _ _ _ _ _ (@VR.sym (symL _ _ one) _ _ _ _ _ rfl) (@VRL.nil (symL _ _ one) _)
  · rintro e w' ⟨v, rfl, hS, hbel⟩
    refine ⟨?_, hbel⟩
    obtain ⟨φ', hv⟩ := hS (symL [.bool true] [] rfl) symL_agrees
    have : v = (symL [.bool true] [] rfl).val 0 := by
      cases hv with
      | sym _ _ _ _ h => exact h
    rw [this]
    rfl
end Go.Proofs.YtfcjlgdpdomoeaaGreat.U
