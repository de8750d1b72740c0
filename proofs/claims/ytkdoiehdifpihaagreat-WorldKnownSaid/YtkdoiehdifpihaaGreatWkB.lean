/- WorldKnown's run: which calls are looked for among the known answers. -/
import Derived.Test.YtkdoiehdifpihaaGreatPrims
namespace Go.Proofs.YtkdoiehdifpihaaGreat.Wk
open Go Go.Eng
def km : Nat := 246618135637779519696720042972883741850283841592869668029392845373568645875817813323901265397807109396074287229398047645324129655232112485900484608
def kr : Nat := 99895953610111751447535397597347251851891759043636981242380542271965407459190256438931653682306130143610948361643404367889658981649740013911408640
theorem memoNil : MemoOK Tryz.prog [] := fun _ h => by cases h
theorem memoCons {t : MT} {ts : List MT} (h : MTK Tryz.prog t) (hs : MemoOK Tryz.prog ts) : MemoOK Tryz.prog (t :: ts) := List.forall_mem_cons.2 ⟨h, hs⟩
end Go.Proofs.YtkdoiehdifpihaaGreat.Wk
