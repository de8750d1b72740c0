/- awake's run: it answers true and leaves alone what was there. -/
import Derived.Test.YtkdoiehdifpihaaGreatAwS0
namespace Go.Proofs.YtkdoiehdifpihaaGreat.Aw
open Go Go.Eng
theorem run : isTrue (callM Tryz.prog ⟨304, 306, 1000000⟩ (prims) ts km kr 100000 150 23 [] m0) = true := by kernel_rfl
theorem known : Trues Tryz.prog 23 := trues_of_call (callM_sound pok primsOK tsk km kr 100000 150) run
end Go.Proofs.YtkdoiehdifpihaaGreat.Aw
