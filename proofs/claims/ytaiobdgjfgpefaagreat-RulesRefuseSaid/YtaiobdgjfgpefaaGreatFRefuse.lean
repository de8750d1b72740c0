/- The closed facts of the row 'rulesRefuse'. -/
import Derived.Test.YtaiobdgjfgpefaaGreatFacts
namespace Go.Proofs.YtaiobdgjfgpefaaGreat
open Go
namespace rulesRefuseFacts
theorem inPlace : (Rows.rulesRefuseRow.inPlace == Tryz.pinned.checked.prog.inPlace 3) = true := by kernel_rfl
theorem unfollowed : (Rows.rulesRefuseRow.unfollowed == Tryz.pinned.checked.prog.unfollowed 3) = true := by kernel_rfl
theorem recurses : (Rows.rulesRefuseRow.recurses == Tryz.pinned.checked.prog.recurses 3) = true := by kernel_rfl
theorem named : (Rows.rulesRefuseRow.named == Tryz.pinned.checked.prog.varsNamed 3) = true := by kernel_rfl
theorem plainKeys : (Rows.rulesRefuseRow.plainKeys == Tryz.pinned.checked.prog.plainKeys) = true := by kernel_rfl
theorem lifted : (Rows.rulesRefuseRow.lifted == Tryz.pinned.checked.prog.liftsFinal) = true := by kernel_rfl
theorem make : (Tryz.pinned.checked.prog.make == some Rows.rulesRefuseRow.make) = true := by kernel_rfl
theorem joined : joinedFacts Tryz.pinned.checked.prog 3 Tryz.f3 Rows.rulesRefuseSpec Rows.rulesRefuseRow = true := by
  unfold joinedFacts
  exact (andI (andI (andI (andI (andI (andI (andI (andI (andI (andI (andI (andI (andI (andI (andI (andI (andI (andI (andI (andI (andI (andI (andI (andI (andI (andI (andI (andI (andI (andI (andI (by kernel_rfl) Facts.laidOut) Facts.mapsRowed) (by kernel_rfl)) (by kernel_rfl)) (by kernel_rfl)) (by kernel_rfl)) (by kernel_rfl)) (by kernel_rfl)) inPlace) unfollowed) recurses) named) (by kernel_rfl)) (by kernel_rfl)) (by kernel_rfl)) (by kernel_rfl)) (by kernel_rfl)) (by kernel_rfl)) (by kernel_rfl)) (by kernel_rfl)) (by kernel_rfl)) plainKeys) (by kernel_rfl)) Facts.heard) Facts.mayEnter) lifted) make) (by kernel_rfl)) (by kernel_rfl)) (by kernel_rfl)) (by kernel_rfl))
theorem inst : Tryz.f3.isInstance Tryz.pinned.checked.prog Rows.rulesRefuseRow.origin Rows.rulesRefuseRow.targs := of_decide_eq_true (by kernel_rfl)
theorem func : Tryz.pinned.checked.prog.funcNamed Rows.rulesRefuseRow.func = some 3 := by kernel_rfl
theorem wrapper : Tryz.f3.isWrapper Tryz.pinned.checked.prog Rows.rulesRefuseRow.wrapper Rows.rulesRefuseRow.mainSum := by unfold Func.isWrapper; first | (rw [if_pos (by decide +kernel)]; kernel_rfl) | (rw [if_neg (by decide +kernel)]; exact ⟨rfl, rfl⟩)
end rulesRefuseFacts
end Go.Proofs.YtaiobdgjfgpefaaGreat

