/- The history's own example, run: awake answers true and leaves alone what was there. -/
import Derived.Test.YtopofdjgfbimnaaGreatPrims
namespace Go.Proofs.YtopofdjgfbimnaaGreat
open Go Go.Eng
theorem awake10Run : isTrue (callFF Tryz.prog ⟨506, 508, 376⟩ prims 100000 200 36 [] m0) = true := by kernel_rfl
theorem awake10 : Trues Tryz.prog 36 := trues_of pok primsOK awake10Run
end Go.Proofs.YtopofdjgfbimnaaGreat
