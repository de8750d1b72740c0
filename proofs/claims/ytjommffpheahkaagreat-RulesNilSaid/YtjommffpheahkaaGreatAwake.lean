/- The law's own example, run: awake answers true and leaves alone what was there. -/
import Derived.Test.YtjommffpheahkaaGreatPok
namespace Go.Proofs.YtjommffpheahkaaGreat
open Go Go.Eng
theorem awakeRun : isTrue (callFF Tryz.prog ⟨368, 370⟩ (fun _ => none) 100000 200 7 [] m0) = true := by kernel_rfl
theorem awake : Trues Tryz.prog 7 := trues_of pok (noPrim _) awakeRun
end Go.Proofs.YtjommffpheahkaaGreat
