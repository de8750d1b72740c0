/- The functions that the engine takes by contract. -/
import Derived.Test.YtokaedcpmiklhaaGreatIdsA
import Derived.Test.YtokaedcpmiklhaaGreatUPok
import Derived.Test.YtokaedcpmiklhaaGreatEngS4
set_option linter.unusedSimpArgs false
set_option linter.unusedVariables false
namespace Go.Proofs.YtokaedcpmiklhaaGreat
open Go Go.Eng
noncomputable def prA : PrT := fun D => orP (@keysPrim1 D Tryz.prog ⟨407, 409, 1000000⟩ 249 293 0) (@deferPrim D Tryz.prog ⟨407, 409, 1000000⟩ [93])
theorem prA_ok : PrOK Tryz.prog prA :=
  fun S => orP_ok (@keysPrim1_ok S _ _ pok _ _ _ _ Tryz.underlying3 keysFnA) (@deferPrim_ok S _ _ pok [93])
end Go.Proofs.YtokaedcpmiklhaaGreat
