/- The closed facts of the row 'historyBytes'. -/
import Derived.Test.YtokaedcpmiklhaaGreatFacts
namespace Go.Proofs.YtokaedcpmiklhaaGreat
open Go
namespace historyBytesFacts
theorem inPlace : (Rows.historyBytesRow.inPlace == Tryz.pinned.checked.prog.inPlace 5) = true := by kernel_rfl
theorem unfollowed : (Rows.historyBytesRow.unfollowed == Tryz.pinned.checked.prog.unfollowed 5) = true := by kernel_rfl
theorem recurses : (Rows.historyBytesRow.recurses == Tryz.pinned.checked.prog.recurses 5) = true := by kernel_rfl
theorem named : (Rows.historyBytesRow.named == Tryz.pinned.checked.prog.varsNamed 5) = true := by kernel_rfl
theorem plainKeys : (Rows.historyBytesRow.plainKeys == Tryz.pinned.checked.prog.plainKeys) = true := by kernel_rfl
theorem lifted : (Rows.historyBytesRow.lifted == Tryz.pinned.checked.prog.liftsFinal) = true := by kernel_rfl
theorem make : (Tryz.pinned.checked.prog.make == some Rows.historyBytesRow.make) = true := by kernel_rfl
theorem joined : joinedFacts Tryz.pinned.checked.prog 5 Tryz.f5 Rows.historyBytesSpec Rows.historyBytesRow = true := by
  unfold joinedFacts
  exact (andI (andI (andI (andI (andI (andI (andI (andI (andI (andI (andI (andI (andI (andI (andI (andI (andI (andI (andI (andI (andI (andI (andI (andI (andI (andI (andI (andI (andI (andI (andI (by kernel_rfl) Facts.laidOut) Facts.mapsRowed) (by kernel_rfl)) (by kernel_rfl)) (by kernel_rfl)) (by kernel_rfl)) (by kernel_rfl)) (by kernel_rfl)) inPlace) unfollowed) recurses) named) (by kernel_rfl)) (by kernel_rfl)) (by kernel_rfl)) (by kernel_rfl)) (by kernel_rfl)) (by kernel_rfl)) (by kernel_rfl)) (by kernel_rfl)) (by kernel_rfl)) plainKeys) (by kernel_rfl)) Facts.heard) Facts.mayEnter) lifted) make) (by kernel_rfl)) (by kernel_rfl)) (by kernel_rfl)) (by kernel_rfl))
theorem inst : Tryz.f5.isInstance Tryz.pinned.checked.prog Rows.historyBytesRow.origin Rows.historyBytesRow.targs := of_decide_eq_true (by kernel_rfl)
theorem func : Tryz.pinned.checked.prog.funcNamed Rows.historyBytesRow.func = some 5 := by kernel_rfl
theorem wrapper : Tryz.f5.isWrapper Tryz.pinned.checked.prog Rows.historyBytesRow.wrapper Rows.historyBytesRow.mainSum := by unfold Func.isWrapper; first | (rw [if_pos (by decide +kernel)]; kernel_rfl) | (rw [if_neg (by decide +kernel)]; exact ⟨rfl, rfl⟩)
end historyBytesFacts
end Go.Proofs.YtokaedcpmiklhaaGreat

