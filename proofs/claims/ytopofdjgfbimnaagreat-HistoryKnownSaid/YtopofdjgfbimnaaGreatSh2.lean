/- Calls run apart, at the values that they have there. -/
import Derived.Test.YtopofdjgfbimnaaGreatPrims
namespace Go.Proofs.YtopofdjgfbimnaaGreat
open Go Go.Eng
def h4 : Seg :=
  ⟨43,
   [(.agg ⟨[(iv 0), (.bool false), (iv 0), (.bool false), (iv 67108864), (.bool false), (iv 4), (iv 2), (iv 2), (iv 2), (iv 64), (.slice (some ⟨2, 0, none⟩) 4 4)]⟩)],
   1436,
   [(2, (.cells [(iv 1), (iv 0), (.string ⟨⟨[]⟩⟩), (iv 0), (iv 3), (iv 1), (.string ⟨⟨[0, 0, 0, 5, 10, 0, 0, 0, 7]⟩⟩), (iv 0), (iv 5), (iv 0), (.string ⟨⟨[]⟩⟩), (iv 0), (iv 4), (iv 1), (.string ⟨⟨[]⟩⟩), (iv 99)]))],
   (.tuple ⟨[(.slice (some ⟨1780, 0, some 4⟩) 4 4), (iv 0)]⟩),
   1781,
   [(1780, (.cells [(iv 0), (iv 1), (.string ⟨⟨[]⟩⟩), (.slice none 0 0), (iv 0), (iv 0), (.string ⟨⟨[]⟩⟩), (.slice none 0 0), (iv 0), (iv 0), (.string ⟨⟨[]⟩⟩), (.slice (some ⟨1709, 0, some 88⟩) 1 1), (iv 0), (iv 0), (.string ⟨⟨[0, 0, 0, 10, 10, 0, 0, 0, 7, 0, 0, 0, 0, 0]⟩⟩), (.slice none 0 0)])), (1709, (.cells [(iv 1), (iv 1), (iv 10), (iv 7), (iv 0), (iv 0), (iv 0), (iv 0), (iv 0), (iv 0), (iv 0), (.slice none 0 0), (iv 0), (.bool false), (iv 0), (.bool false), (iv 0), (.bool false), (iv 0), (.bool false), (iv 0), (.bool false), (iv 0), (.bool false), (iv 0), (.bool false), (iv 0), (.bool false), (iv 0), (.bool false), (iv 0), (.bool false), (iv 0), (.bool false), (iv 0), (.bool false), (iv 0), (iv 0), (iv 0), (iv 0), (iv 0), (iv 0), (iv 0), (iv 0), (iv 0), (iv 10), (iv 7), (iv 0), (iv 0), (iv 0), (iv 0), (iv 0), (iv 0), (iv 0), (iv 0), (iv 0), (.slice none 0 0), (iv 0), (.bool false), (iv 0), (.bool false), (iv 0), (.bool false), (iv 0), (.bool false), (iv 0), (.bool false), (iv 0), (.bool false), (iv 0), (.bool false), (iv 0), (.bool false), (iv 0), (.bool false), (iv 0), (.bool false), (.bool false), (iv 0), (.slice none 0 0), (.bool false), (iv 0), (.bool false), (iv 0), (.bool false), (iv 0), (.bool false), (iv 0)])), (2, (.cells [(iv 1), (iv 0), (.string ⟨⟨[]⟩⟩), (iv 0), (iv 3), (iv 1), (.string ⟨⟨[0, 0, 0, 5, 10, 0, 0, 0, 7]⟩⟩), (iv 0), (iv 5), (iv 0), (.string ⟨⟨[]⟩⟩), (iv 0), (iv 4), (iv 1), (.string ⟨⟨[]⟩⟩), (iv 99)]))]⟩
theorem h4ok : segOK h4 = true := by kernel_rfl
theorem h4run : segRun (callFF Tryz.prog ⟨506, 508, 376⟩ prims 100000 150 h4.g h4.args (mem h4.n h4.pre)) h4 = true := by kernel_rfl
theorem h4good : SegGood Tryz.prog h4 := segGood pok primsOK h4ok h4run
end Go.Proofs.YtopofdjgfbimnaaGreat
