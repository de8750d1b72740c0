/- The world's own example, run: awake answers true and leaves alone what was there. -/
import Derived.Test.YtaiobdgjfgpefaaGreatSa0
import Derived.Test.YtaiobdgjfgpefaaGreatSa1
import Derived.Test.YtaiobdgjfgpefaaGreatIds
namespace Go.Proofs.YtaiobdgjfgpefaaGreat
open Go Go.Eng
def segs : List Seg := [s0, s1, s2, s3, s4, s5]
theorem segsGood : ∀ s ∈ segs, SegGood Tryz.prog s := (List.forall_mem_cons.2 ⟨s0good, (List.forall_mem_cons.2 ⟨s1good, (List.forall_mem_cons.2 ⟨s2good, (List.forall_mem_cons.2 ⟨s3good, (List.forall_mem_cons.2 ⟨s4good, (List.forall_mem_cons.2 ⟨s5good, (fun _ h => nomatch h)⟩)⟩)⟩)⟩)⟩)⟩)
theorem awake6Run : isTrue (callFF Tryz.prog ⟨316, 318⟩ (primOr (keysPrim1 Tryz.prog ⟨316, 318⟩ 184 164 0) (segPrim [387] segs)) 100000 200 28 [] m0) = true := by kernel_rfl
theorem awake6 : Trues Tryz.prog 28 := trues_of pok (primOr_ok (keysPrim1_ok pok Tryz.underlying3 keysFnA) (segPrim_ok segsGood)) awake6Run
end Go.Proofs.YtaiobdgjfgpefaaGreat
