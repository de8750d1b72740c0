/- awake's run: which calls are looked for among the known answers. -/
import Derived.Test.YtkdoiehdifpihaaGreatPrims2
namespace Go.Proofs.YtkdoiehdifpihaaGreat.Aw
open Go Go.Eng
def km : Nat := 3121748550315992231381896770779048436588005611901715146047426384308712096475347093987478371142727687056025397371231310786611608506336705727692800
def kr : Nat := 99895953610111751447535397597347251851891759043636981242380542271965407459190256438931653682306130143610948361643404367889658981649740013911408640
theorem memoNil : MemoOK Tryz.prog [] := fun _ h => by cases h
theorem memoCons {t : MT} {ts : List MT} (h : MTK Tryz.prog t) (hs : MemoOK Tryz.prog ts) : MemoOK Tryz.prog (t :: ts) := List.forall_mem_cons.2 ⟨h, hs⟩
end Go.Proofs.YtkdoiehdifpihaaGreat.Aw
