/- The closed facts of the row 'historyBack'. -/
import Derived.Test.YtfcjlgdpdomoeaaGreatFacts
set_option linter.unusedSimpArgs false
set_option linter.unusedVariables false
namespace Go.Proofs.YtfcjlgdpdomoeaaGreat
open Go
namespace historyBackFacts
theorem inPlace : (Rows.historyBackRow.inPlace == Tryz.pinned.checked.prog.inPlace 4) = true := by kernel_rfl
theorem unfollowed : (Rows.historyBackRow.unfollowed == Tryz.pinned.checked.prog.unfollowed 4) = true := by kernel_rfl
theorem recurses : (Rows.historyBackRow.recurses == Tryz.pinned.checked.prog.recurses 4) = true := by kernel_rfl
theorem named : (Rows.historyBackRow.named == Tryz.pinned.checked.prog.varsNamed 4) = true := by kernel_rfl
theorem plainKeys : (Rows.historyBackRow.plainKeys == Tryz.pinned.checked.prog.plainKeys) = true := by kernel_rfl
theorem lifted : (Rows.historyBackRow.lifted == Tryz.pinned.checked.prog.liftsFinal) = true := by kernel_rfl
theorem make : (Tryz.pinned.checked.prog.make == some Rows.historyBackRow.make) = true := by kernel_rfl
theorem joined : joinedFacts Tryz.pinned.checked.prog 4 Tryz.f4 Rows.historyBackSpec Rows.historyBackRow = true := by
  unfold joinedFacts
  exact (andI (andI (andI (andI (andI (andI (andI (andI (andI (andI (andI (andI (andI (andI (andI (andI (andI (andI (andI (andI (andI (andI (andI (andI (andI (andI (andI (andI (andI (andI (andI (by kernel_rfl) Facts.laidOut) Facts.mapsRowed) (by kernel_rfl)) (by kernel_rfl)) (by kernel_rfl)) (by kernel_rfl)) (by kernel_rfl)) (by kernel_rfl)) inPlace) unfollowed) recurses) named) (by kernel_rfl)) (by kernel_rfl)) (by kernel_rfl)) (by kernel_rfl)) (by kernel_rfl)) (by kernel_rfl)) (by kernel_rfl)) (by kernel_rfl)) (by kernel_rfl)) plainKeys) (by kernel_rfl)) Facts.heard) Facts.mayEnter) lifted) make) (by kernel_rfl)) (by kernel_rfl)) (by kernel_rfl)) (by kernel_rfl))
theorem inst : Tryz.f4.isInstance Tryz.pinned.checked.prog Rows.historyBackRow.origin Rows.historyBackRow.targs := of_decide_eq_true (by kernel_rfl)
theorem func : Tryz.pinned.checked.prog.funcNamed Rows.historyBackRow.func = some 4 := by kernel_rfl
theorem wrapper : Tryz.f4.isWrapper Tryz.pinned.checked.prog Rows.historyBackRow.wrapper Rows.historyBackRow.mainSum := by unfold Func.isWrapper; first | (rw [if_pos (by decide +kernel)]; kernel_rfl) | (rw [if_neg (by decide +kernel)]; exact ⟨rfl, rfl⟩)
end historyBackFacts
end Go.Proofs.YtfcjlgdpdomoeaaGreat

