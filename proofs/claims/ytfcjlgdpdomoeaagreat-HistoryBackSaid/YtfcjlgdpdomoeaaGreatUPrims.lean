/- The functions that the engine takes by contract. -/
import Derived.Test.YtfcjlgdpdomoeaaGreatIdsA
import Derived.Test.YtfcjlgdpdomoeaaGreatUPok
import Derived.Test.YtfcjlgdpdomoeaaGreatEngS4
set_option linter.unusedSimpArgs false
set_option linter.unusedVariables false
namespace Go.Proofs.YtfcjlgdpdomoeaaGreat
open Go Go.Eng
noncomputable def prA : PrT := fun D => orP (@keysPrim1 D Tryz.prog ⟨422, 424, 1000000⟩ 262 306 0) (@deferPrim D Tryz.prog ⟨422, 424, 1000000⟩ [107])
theorem prA_ok : PrOK Tryz.prog prA :=
  fun S => orP_ok (@keysPrim1_ok S _ _ pok _ _ _ _ Tryz.underlying3 keysFnA) (@deferPrim_ok S _ _ pok [107])
end Go.Proofs.YtfcjlgdpdomoeaaGreat
