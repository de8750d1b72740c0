/- The closed facts of the row 'historyKnown'. -/
import Derived.Test.YtopofdjgfbimnaaGreatFacts
namespace Go.Proofs.YtopofdjgfbimnaaGreat
open Go
namespace historyKnownFacts
theorem inPlace : (Rows.historyKnownRow.inPlace == Tryz.pinned.checked.prog.inPlace 8) = true := by kernel_rfl
theorem unfollowed : (Rows.historyKnownRow.unfollowed == Tryz.pinned.checked.prog.unfollowed 8) = true := by kernel_rfl
theorem recurses : (Rows.historyKnownRow.recurses == Tryz.pinned.checked.prog.recurses 8) = true := by kernel_rfl
theorem named : (Rows.historyKnownRow.named == Tryz.pinned.checked.prog.varsNamed 8) = true := by kernel_rfl
theorem plainKeys : (Rows.historyKnownRow.plainKeys == Tryz.pinned.checked.prog.plainKeys) = true := by kernel_rfl
theorem lifted : (Rows.historyKnownRow.lifted == Tryz.pinned.checked.prog.liftsFinal) = true := by kernel_rfl
theorem make : (Tryz.pinned.checked.prog.make == some Rows.historyKnownRow.make) = true := by kernel_rfl
theorem joined : joinedFacts Tryz.pinned.checked.prog 8 Tryz.f8 Rows.historyKnownSpec Rows.historyKnownRow = true := by
  unfold joinedFacts
  exact (andI (andI (andI (andI (andI (andI (andI (andI (andI (andI (andI (andI (andI (andI (andI (andI (andI (andI (andI (andI (andI (andI (andI (andI (andI (andI (andI (andI (andI (andI (andI (by kernel_rfl) Facts.laidOut) Facts.mapsRowed) (by kernel_rfl)) (by kernel_rfl)) (by kernel_rfl)) (by kernel_rfl)) (by kernel_rfl)) (by kernel_rfl)) inPlace) unfollowed) recurses) named) (by kernel_rfl)) (by kernel_rfl)) (by kernel_rfl)) (by kernel_rfl)) (by kernel_rfl)) (by kernel_rfl)) (by kernel_rfl)) (by kernel_rfl)) (by kernel_rfl)) plainKeys) (by kernel_rfl)) Facts.heard) Facts.mayEnter) lifted) make) (by kernel_rfl)) (by kernel_rfl)) (by kernel_rfl)) (by kernel_rfl))
theorem inst : Tryz.f8.isInstance Tryz.pinned.checked.prog Rows.historyKnownRow.origin Rows.historyKnownRow.targs := of_decide_eq_true (by kernel_rfl)
theorem func : Tryz.pinned.checked.prog.funcNamed Rows.historyKnownRow.func = some 8 := by kernel_rfl
theorem wrapper : Tryz.f8.isWrapper Tryz.pinned.checked.prog Rows.historyKnownRow.wrapper Rows.historyKnownRow.mainSum := by unfold Func.isWrapper; first | (rw [if_pos (by decide +kernel)]; kernel_rfl) | (rw [if_neg (by decide +kernel)]; exact ⟨rfl, rfl⟩)
end historyKnownFacts
end Go.Proofs.YtopofdjgfbimnaaGreat

