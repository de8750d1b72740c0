/- The law's own example, run: awake answers true and leaves alone what was there. -/
import Derived.Test.YtaiobdgjfgpefaaGreatPok
namespace Go.Proofs.YtaiobdgjfgpefaaGreat
open Go Go.Eng
theorem awakeRun : isTrue (callFF Tryz.prog ⟨316, 318⟩ (fun _ => none) 100000 200 8 [] m0) = true := by kernel_rfl
theorem awake : Trues Tryz.prog 8 := trues_of pok (noPrim _) awakeRun
end Go.Proofs.YtaiobdgjfgpefaaGreat
