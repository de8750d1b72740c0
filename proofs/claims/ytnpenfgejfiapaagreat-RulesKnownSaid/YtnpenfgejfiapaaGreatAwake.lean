/- The law's own example, run: awake answers true and leaves alone what was there. -/
import Derived.Test.YtnpenfgejfiapaaGreatPok
namespace Go.Proofs.YtnpenfgejfiapaaGreat
open Go Go.Eng
theorem awakeRun : isTrue (callFF Tryz.prog ⟨235, 237⟩ (fun _ => none) 100000 200 6 [] m0) = true := by kernel_rfl
theorem awake : Trues Tryz.prog 6 := trues_of pok (noPrim _) awakeRun
end Go.Proofs.YtnpenfgejfiapaaGreat
