/- The functions that the engine takes by contract. -/
import Derived.Test.YtkgfckenobmleaaGreatIdsA
import Derived.Test.YtkgfckenobmleaaGreatIdsB
import Derived.Test.YtkgfckenobmleaaGreatUPok
import Derived.Test.YtkgfckenobmleaaGreatEngS4
set_option linter.unusedSimpArgs false
set_option linter.unusedVariables false
namespace Go.Proofs.YtkgfckenobmleaaGreat
open Go Go.Eng
noncomputable def prA : PrT := fun D => orP (@keysPrim1 D Tryz.prog ⟨451, 453, 240⟩ 294 180 0) (orP (@keysPrim1 D Tryz.prog ⟨451, 453, 240⟩ 15 38 12) (@deferPrim D Tryz.prog ⟨451, 453, 240⟩ [139]))
theorem prA_ok : PrOK Tryz.prog prA :=
  fun S => orP_ok (@keysPrim1_ok S _ _ pok _ _ _ _ Tryz.underlying3 keysFnA) (orP_ok (@keysPrim1_ok S _ _ pok _ _ _ _ Tryz.underlying3 keysFnB) (@deferPrim_ok S _ _ pok [139]))
end Go.Proofs.YtkgfckenobmleaaGreat
