/- The closed facts of the row 'serverBroken'. -/
import Derived.Test.YtgddinljekkhdaaGreatFacts
set_option linter.unusedSimpArgs false
set_option linter.unusedVariables false
namespace Go.Proofs.YtgddinljekkhdaaGreat
open Go
namespace serverBrokenFacts
theorem inPlace : (Rows.serverBrokenRow.inPlace == Tryz.pinned.checked.prog.inPlace 4) = true := by kernel_rfl
theorem unfollowed : (Rows.serverBrokenRow.unfollowed == Tryz.pinned.checked.prog.unfollowed 4) = true := by kernel_rfl
theorem recurses : (Rows.serverBrokenRow.recurses == Tryz.pinned.checked.prog.recurses 4) = true := by kernel_rfl
theorem named : (Rows.serverBrokenRow.named == Tryz.pinned.checked.prog.varsNamed 4) = true := by kernel_rfl
theorem plainKeys : (Rows.serverBrokenRow.plainKeys == Tryz.pinned.checked.prog.plainKeys) = true := by kernel_rfl
theorem lifted : (Rows.serverBrokenRow.lifted == Tryz.pinned.checked.prog.liftsFinal) = true := by kernel_rfl
theorem make : (Tryz.pinned.checked.prog.make == some Rows.serverBrokenRow.make) = true := by kernel_rfl
theorem joined : joinedFacts Tryz.pinned.checked.prog 4 Tryz.f4 Rows.serverBrokenSpec Rows.serverBrokenRow = true := by
  unfold joinedFacts
  exact (andI (andI (andI (andI (andI (andI (andI (andI (andI (andI (andI (andI (andI (andI (andI (andI (andI (andI (andI (andI (andI (andI (andI (andI (andI (andI (andI (andI (andI (andI (andI (by kernel_rfl) Facts.laidOut) Facts.mapsRowed) (by kernel_rfl)) (by kernel_rfl)) (by kernel_rfl)) (by kernel_rfl)) (by kernel_rfl)) (by kernel_rfl)) inPlace) unfollowed) recurses) named) (by kernel_rfl)) (by kernel_rfl)) (by kernel_rfl)) (by kernel_rfl)) (by kernel_rfl)) (by kernel_rfl)) (by kernel_rfl)) (by kernel_rfl)) (by kernel_rfl)) plainKeys) (by kernel_rfl)) Facts.heard) Facts.mayEnter) lifted) make) (by kernel_rfl)) (by kernel_rfl)) (by kernel_rfl)) (by kernel_rfl))
theorem inst : Tryz.f4.isInstance Tryz.pinned.checked.prog Rows.serverBrokenRow.origin Rows.serverBrokenRow.targs := of_decide_eq_true (by kernel_rfl)
theorem func : Tryz.pinned.checked.prog.funcNamed Rows.serverBrokenRow.func = some 4 := by kernel_rfl
theorem wrapper : Tryz.f4.isWrapper Tryz.pinned.checked.prog Rows.serverBrokenRow.wrapper Rows.serverBrokenRow.mainSum := by unfold Func.isWrapper; first | (rw [if_pos (by decide +kernel)]; kernel_rfl) | (rw [if_neg (by decide +kernel)]; exact ⟨rfl, rfl⟩)
end serverBrokenFacts
end Go.Proofs.YtgddinljekkhdaaGreat

