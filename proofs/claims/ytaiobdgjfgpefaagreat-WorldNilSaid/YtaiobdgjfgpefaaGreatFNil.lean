/- The closed facts of the row 'worldNil'. -/
import Derived.Test.YtaiobdgjfgpefaaGreatFacts
namespace Go.Proofs.YtaiobdgjfgpefaaGreat
open Go
namespace worldNilFacts
theorem inPlace : (Rows.worldNilRow.inPlace == Tryz.pinned.checked.prog.inPlace 6) = true := by kernel_rfl
theorem unfollowed : (Rows.worldNilRow.unfollowed == Tryz.pinned.checked.prog.unfollowed 6) = true := by kernel_rfl
theorem recurses : (Rows.worldNilRow.recurses == Tryz.pinned.checked.prog.recurses 6) = true := by kernel_rfl
theorem named : (Rows.worldNilRow.named == Tryz.pinned.checked.prog.varsNamed 6) = true := by kernel_rfl
theorem plainKeys : (Rows.worldNilRow.plainKeys == Tryz.pinned.checked.prog.plainKeys) = true := by kernel_rfl
theorem lifted : (Rows.worldNilRow.lifted == Tryz.pinned.checked.prog.liftsFinal) = true := by kernel_rfl
theorem make : (Tryz.pinned.checked.prog.make == some Rows.worldNilRow.make) = true := by kernel_rfl
theorem joined : joinedFacts Tryz.pinned.checked.prog 6 Tryz.f6 Rows.worldNilSpec Rows.worldNilRow = true := by
  unfold joinedFacts
  exact (andI (andI (andI (andI (andI (andI (andI (andI (andI (andI (andI (andI (andI (andI (andI (andI (andI (andI (andI (andI (andI (andI (andI (andI (andI (andI (andI (andI (andI (andI (andI (by kernel_rfl) Facts.laidOut) Facts.mapsRowed) (by kernel_rfl)) (by kernel_rfl)) (by kernel_rfl)) (by kernel_rfl)) (by kernel_rfl)) (by kernel_rfl)) inPlace) unfollowed) recurses) named) (by kernel_rfl)) (by kernel_rfl)) (by kernel_rfl)) (by kernel_rfl)) (by kernel_rfl)) (by kernel_rfl)) (by kernel_rfl)) (by kernel_rfl)) (by kernel_rfl)) plainKeys) (by kernel_rfl)) Facts.heard) Facts.mayEnter) lifted) make) (by kernel_rfl)) (by kernel_rfl)) (by kernel_rfl)) (by kernel_rfl))
theorem inst : Tryz.f6.isInstance Tryz.pinned.checked.prog Rows.worldNilRow.origin Rows.worldNilRow.targs := of_decide_eq_true (by kernel_rfl)
theorem func : Tryz.pinned.checked.prog.funcNamed Rows.worldNilRow.func = some 6 := by kernel_rfl
theorem wrapper : Tryz.f6.isWrapper Tryz.pinned.checked.prog Rows.worldNilRow.wrapper Rows.worldNilRow.mainSum := by unfold Func.isWrapper; first | (rw [if_pos (by decide +kernel)]; kernel_rfl) | (rw [if_neg (by decide +kernel)]; exact ⟨rfl, rfl⟩)
end worldNilFacts
end Go.Proofs.YtaiobdgjfgpefaaGreat

