/- The chapter's examples, run: RulesKnown answers true and leaves alone what was there. -/
import Derived.Test.YtnpenfgejfiapaaGreatAwake
import Derived.Test.YtnpenfgejfiapaaGreatSg0
import Derived.Test.YtnpenfgejfiapaaGreatSg1
import Derived.Test.YtnpenfgejfiapaaGreatSg2
import Derived.Test.YtnpenfgejfiapaaGreatSgR0
namespace Go.Proofs.YtnpenfgejfiapaaGreat
open Go Go.Eng
def segs : List Seg := [s0, s1, s2, s3, s4, s5, s6, s7, s8, s9, s10, s11, s12, s13, s14, s15, s16]
theorem segsGood : ∀ s ∈ segs, SegGood Tryz.prog s := (List.forall_mem_cons.2 ⟨s0good, (List.forall_mem_cons.2 ⟨s1good, (List.forall_mem_cons.2 ⟨s2good, (List.forall_mem_cons.2 ⟨s3good, (List.forall_mem_cons.2 ⟨s4good, (List.forall_mem_cons.2 ⟨s5good, (List.forall_mem_cons.2 ⟨s6good, (List.forall_mem_cons.2 ⟨s7good, (List.forall_mem_cons.2 ⟨s8good, (List.forall_mem_cons.2 ⟨s9good, (List.forall_mem_cons.2 ⟨s10good, (List.forall_mem_cons.2 ⟨s11good, (List.forall_mem_cons.2 ⟨s12good, (List.forall_mem_cons.2 ⟨s13good, (List.forall_mem_cons.2 ⟨s14good, (List.forall_mem_cons.2 ⟨s15good, (List.forall_mem_cons.2 ⟨s16good, (fun _ h => nomatch h)⟩)⟩)⟩)⟩)⟩)⟩)⟩)⟩)⟩)⟩)⟩)⟩)⟩)⟩)⟩)⟩)⟩)
theorem knownRun : isTrue (callFF Tryz.prog ⟨235, 237⟩ (primOr (prim1 6 primTrue) (segPrim [14] segs)) 100000 200 4 [] m0) = true := by kernel_rfl
theorem known : Trues Tryz.prog 4 := trues_of pok (primOr_ok (prim1_ok awake) (segPrim_ok segsGood)) knownRun
end Go.Proofs.YtnpenfgejfiapaaGreat
