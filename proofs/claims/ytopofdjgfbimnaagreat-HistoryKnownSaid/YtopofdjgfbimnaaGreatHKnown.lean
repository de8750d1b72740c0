/- The history's examples, run: HistoryKnown answers true and leaves alone what was there. -/
import Derived.Test.YtopofdjgfbimnaaGreatAwake10
import Derived.Test.YtopofdjgfbimnaaGreatSh0
import Derived.Test.YtopofdjgfbimnaaGreatSh1
import Derived.Test.YtopofdjgfbimnaaGreatSh2
namespace Go.Proofs.YtopofdjgfbimnaaGreat
open Go Go.Eng
def hsegs : List Seg := [h0, h1, h2, h3, h4]
theorem hsegsGood : ∀ s ∈ hsegs, SegGood Tryz.prog s := (List.forall_mem_cons.2 ⟨h0good, (List.forall_mem_cons.2 ⟨h1good, (List.forall_mem_cons.2 ⟨h2good, (List.forall_mem_cons.2 ⟨h3good, (List.forall_mem_cons.2 ⟨h4good, (fun _ h => by cases h)⟩)⟩)⟩)⟩)⟩)
theorem hknownRun : isTrue (callFF Tryz.prog ⟨506, 508, 376⟩ (primOr (prim1 36 primTrue) (primOr (segPrim [43, 96] hsegs) prims)) 100000 200 8 [] m0) = true := by kernel_rfl
theorem hknown : Trues Tryz.prog 8 := trues_of pok (primOr_ok (prim1_ok awake10) (primOr_ok (segPrim_ok hsegsGood) primsOK)) hknownRun
end Go.Proofs.YtopofdjgfbimnaaGreat
