/- The server's examples, run: ServerKnown answers true and leaves alone what was there. -/
import Derived.Test.YtopofdjgfbimnaaGreatAwake
namespace Go.Proofs.YtopofdjgfbimnaaGreat
open Go Go.Eng
theorem knownRun : isTrue (callFF Tryz.prog ⟨506, 508, 376⟩ (primOr (prim1 10 primTrue) prims) 100000 200 3 [] m0) = true := by kernel_rfl
theorem known : Trues Tryz.prog 3 := trues_of pok (primOr_ok (prim1_ok awake) primsOK) knownRun
end Go.Proofs.YtopofdjgfbimnaaGreat
