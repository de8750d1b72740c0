/- WorldKnown's run: it answers true and leaves alone what was there. -/
import Derived.Test.YtkdoiehdifpihaaGreatWkS3
namespace Go.Proofs.YtkdoiehdifpihaaGreat.Wk
open Go Go.Eng
theorem run : isTrue (callM Tryz.prog ⟨304, 306, 1000000⟩ (prims79) ts km kr 100000 150 5 [] m0) = true := by kernel_rfl
theorem known : Trues Tryz.prog 5 := trues_of_call (callM_sound pok prims79OK tsk km kr 100000 150) run
end Go.Proofs.YtkdoiehdifpihaaGreat.Wk
