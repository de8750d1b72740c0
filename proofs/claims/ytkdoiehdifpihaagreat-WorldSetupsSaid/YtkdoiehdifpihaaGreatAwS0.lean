/- awake's run: calls run apart, at the values that they have there. -/
import Derived.Test.YtkdoiehdifpihaaGreatAwA2
namespace Go.Proofs.YtkdoiehdifpihaaGreat.Aw
open Go Go.Eng
def ts : List MT := [t0, t1, t2, t3, t4, t5, t6, t7, t8, t9]
theorem tsk : MemoOK Tryz.prog ts := (memoCons t0k (memoCons t1k (memoCons t2k (memoCons t3k (memoCons t4k (memoCons t5k (memoCons t6k (memoCons t7k (memoCons t8k (memoCons t9k memoNil))))))))))
end Go.Proofs.YtkdoiehdifpihaaGreat.Aw
