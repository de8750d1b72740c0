/- The functions that the engine takes by contract. -/
import Derived.Test.YtopofdjgfbimnaaGreatIdsA
import Derived.Test.YtopofdjgfbimnaaGreatIdsB
import Derived.Test.YtopofdjgfbimnaaGreatPok
namespace Go.Proofs.YtopofdjgfbimnaaGreat
open Go Go.Eng
noncomputable def prims : PrimT := primOr (keysPrim1 Tryz.prog ⟨506, 508, 376⟩ 350 293 0) (primOr (keysPrim1 Tryz.prog ⟨506, 508, 376⟩ 14 49 12) (deferPrim Tryz.prog ⟨506, 508, 376⟩ [106]))
theorem primsOK : PrimOK Tryz.prog prims :=
  primOr_ok (keysPrim1_ok pok Tryz.underlying3 keysFnA) (primOr_ok (keysPrim1_ok pok Tryz.underlying3 keysFnB) (deferPrim_ok pok [106]))
end Go.Proofs.YtopofdjgfbimnaaGreat
