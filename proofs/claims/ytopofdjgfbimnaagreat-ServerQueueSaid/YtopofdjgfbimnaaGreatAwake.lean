/- The server's own example, run: awake answers true and leaves alone what was there. -/
import Derived.Test.YtopofdjgfbimnaaGreatPrims
namespace Go.Proofs.YtopofdjgfbimnaaGreat
open Go Go.Eng
theorem awakeRun : isTrue (callFF Tryz.prog ⟨506, 508, 376⟩ prims 100000 200 10 [] m0) = true := by kernel_rfl
theorem awake : Trues Tryz.prog 10 := trues_of pok primsOK awakeRun
end Go.Proofs.YtopofdjgfbimnaaGreat
