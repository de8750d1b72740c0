/- The functions that the engine takes by contract. -/
import Derived.Test.YtbmbakmhnimkfaaGreatZIdsA
import Derived.Test.YtbmbakmhnimkfaaGreatZPok
import Derived.Test.YtbmbakmhnimkfaaGreatEngX5
set_option linter.unusedSimpArgs false
set_option linter.unusedVariables false
namespace Go.Proofs.YtbmbakmhnimkfaaGreat
open Go Go.Eng
noncomputable def prA : PrT := fun D => orP (@keysPrim1 D Tryz.prog ⟨252, 254, 367⟩ 215 273 0) (@deferPrim D Tryz.prog ⟨252, 254, 367⟩ [92])
theorem prA_ok : PrOK Tryz.prog prA :=
  fun S => orP_ok (@keysPrim1_ok S _ _ pok _ _ _ _ Tryz.underlying3 keysFnA) (@deferPrim_ok S _ _ pok [92])
end Go.Proofs.YtbmbakmhnimkfaaGreat
