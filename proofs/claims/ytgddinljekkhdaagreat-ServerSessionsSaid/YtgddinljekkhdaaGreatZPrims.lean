/- The functions that the engine takes by contract. -/
import Derived.Test.YtgddinljekkhdaaGreatZIdsA
import Derived.Test.YtgddinljekkhdaaGreatZIdsB
import Derived.Test.YtgddinljekkhdaaGreatZPok
import Derived.Test.YtgddinljekkhdaaGreatEngU5
set_option linter.unusedSimpArgs false
set_option linter.unusedVariables false
namespace Go.Proofs.YtgddinljekkhdaaGreat
open Go Go.Eng
noncomputable def prA : PrT := fun D => orP (@keysPrim1 D Tryz.prog ⟨440, 442, 240⟩ 284 163 0) (orP (@keysPrim1 D Tryz.prog ⟨440, 442, 240⟩ 14 34 12) (@deferPrim D Tryz.prog ⟨440, 442, 240⟩ [76]))
theorem prA_ok : PrOK Tryz.prog prA :=
  fun S => orP_ok (@keysPrim1_ok S _ _ pok _ _ _ _ Tryz.underlying3 keysFnA) (orP_ok (@keysPrim1_ok S _ _ pok _ _ _ _ Tryz.underlying3 keysFnB) (@deferPrim_ok S _ _ pok [76]))
end Go.Proofs.YtgddinljekkhdaaGreat
