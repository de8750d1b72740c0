/- The rules' own example, run: awake answers true and leaves alone what was there. -/
import Derived.Test.YtogdmfknfkcjdaaGreatPokP
namespace Go.Proofs.YtogdmfknfkcjdaaGreat
open Go Go.Eng
theorem awakeRunP : isTrue (callFF Tryz.prog ⟨552, 554, 386⟩ (fun _ => none) 100000 200 12 [] m0) = true := by kernel_rfl
theorem awakeP : Trues Tryz.prog 12 := trues_of pok (noPrim _) awakeRunP
end Go.Proofs.YtogdmfknfkcjdaaGreat
