/- The closed facts of the row 'rulesNil'. -/
import Derived.Test.YtjommffpheahkaaGreatFacts
namespace Go.Proofs.YtjommffpheahkaaGreat
open Go
namespace rulesNilFacts
theorem inPlace : (Rows.rulesNilRow.inPlace == Tryz.pinned.checked.prog.inPlace 6) = true := by kernel_rfl
theorem unfollowed : (Rows.rulesNilRow.unfollowed == Tryz.pinned.checked.prog.unfollowed 6) = true := by kernel_rfl
theorem recurses : (Rows.rulesNilRow.recurses == Tryz.pinned.checked.prog.recurses 6) = true := by kernel_rfl
theorem named : (Rows.rulesNilRow.named == Tryz.pinned.checked.prog.varsNamed 6) = true := by kernel_rfl
theorem plainKeys : (Rows.rulesNilRow.plainKeys == Tryz.pinned.checked.prog.plainKeys) = true := by kernel_rfl
theorem lifted : (Rows.rulesNilRow.lifted == Tryz.pinned.checked.prog.liftsFinal) = true := by kernel_rfl
theorem make : (Tryz.pinned.checked.prog.make == some Rows.rulesNilRow.make) = true := by kernel_rfl
theorem joined : joinedFacts Tryz.pinned.checked.prog 6 Tryz.f6 Rows.rulesNilSpec Rows.rulesNilRow = true := by
  unfold joinedFacts
  exact (andI (andI (andI (andI (andI (andI (andI (andI (andI (andI (andI (andI (andI (andI (andI (andI (andI (andI (andI (andI (andI (andI (andI (andI (andI (andI (andI (andI (andI (andI (andI (by kernel_rfl) Facts.laidOut) Facts.mapsRowed) (by kernel_rfl)) (by kernel_rfl)) (by kernel_rfl)) (by kernel_rfl)) (by kernel_rfl)) (by kernel_rfl)) inPlace) unfollowed) recurses) named) (by kernel_rfl)) (by kernel_rfl)) (by kernel_rfl)) (by kernel_rfl)) (by kernel_rfl)) (by kernel_rfl)) (by kernel_rfl)) (by kernel_rfl)) (by kernel_rfl)) plainKeys) (by kernel_rfl)) Facts.heard) Facts.mayEnter) lifted) make) (by kernel_rfl)) (by kernel_rfl)) (by kernel_rfl)) (by kernel_rfl))
theorem inst : Tryz.f6.isInstance Tryz.pinned.checked.prog Rows.rulesNilRow.origin Rows.rulesNilRow.targs := of_decide_eq_true (by kernel_rfl)
theorem func : Tryz.pinned.checked.prog.funcNamed Rows.rulesNilRow.func = some 6 := by kernel_rfl
theorem wrapper : Tryz.f6.isWrapper Tryz.pinned.checked.prog Rows.rulesNilRow.wrapper Rows.rulesNilRow.mainSum := by unfold Func.isWrapper; first | (rw [if_pos (by decide +kernel)]; kernel_rfl) | (rw [if_neg (by decide +kernel)]; exact ⟨rfl, rfl⟩)
end rulesNilFacts
end Go.Proofs.YtjommffpheahkaaGreat

