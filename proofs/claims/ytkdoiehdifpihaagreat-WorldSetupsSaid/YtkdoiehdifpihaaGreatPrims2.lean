/- The functions that the engine takes by contract: the keys of a map, sorted. -/
import Derived.Test.YtkdoiehdifpihaaGreatIds2
import Derived.Test.YtkdoiehdifpihaaGreatPok2
namespace Go.Proofs.YtkdoiehdifpihaaGreat
open Go Go.Eng
noncomputable def prims : PrimT := keysPrim1 Tryz.prog ⟨304, 306, 1000000⟩ 145 159 0
theorem primsOK : PrimOK Tryz.prog prims := keysPrim1_ok pok Tryz.underlying3 keysFnA
end Go.Proofs.YtkdoiehdifpihaaGreat
