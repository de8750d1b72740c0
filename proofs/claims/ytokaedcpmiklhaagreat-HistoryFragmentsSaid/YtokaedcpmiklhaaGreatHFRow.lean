/- HistoryFragments: for every script and every list of cuts the law about fragments returns true, and what was handed in reads as it did. No condition beyond the given statement. -/
import Derived.Test.YtokaedcpmiklhaaGreatFHF
import Derived.Test.YtokaedcpmiklhaaGreatUW
import Derived.WalkKit
import Derived.ProofKit
import Derived.OpenShut
import Derived.ShutString
import Derived.ChangeOld
import Derived.Below
import Derived.ChangeSlices
import Derived.SizedLaws
set_option linter.unusedSimpArgs false
set_option linter.unusedVariables false
namespace Go.Proofs.YtokaedcpmiklhaaGreat
open Go Go.Eng Go.ChangeShapes Go.WideShapes Go.ChangeAt Go.RowKit

namespace HFRow
theorem kinds39 : ctOf Tryz.prog 8 39 = some [.l [.i .i64]] := by kernel_rfl
theorem kinds32 : ctOf Tryz.prog 8 32 = some U.scK := by kernel_rfl

set_option maxRecDepth 100000 in
theorem lifted (os : Os) (started : os.Started) (H : Type) (enc : TypeId × Value → H) :
    ReturnsInHanded {} Tryz.checked os 4 .any (Rows.historyFragmentsSpec.pre6 enc Tryz.prog Tryz.f4 Rows.historyFragmentsRow.domain false) (Rows.historyFragmentsSpec.post enc Tryz.prog Tryz.f4 false true false false) := by
  refine returnsInHanded_of_change_sized (C := Tryz.checked) Facts.own started (by kernel_rfl) Tryz.func4
    (ChangeSpec.witness6 (enc := enc) (C := Tryz.checked) false ⟨#[], #[.agg ⟨[.int .i64 0, .bool false, .int .i64 0, .bool false, .int .i64 0, .bool false, .int .i64 0, .int .i64 0, .int .i64 0, .int .i64 0, .int .i64 0, .slice none 0 0]⟩, .slice none 0 0], []⟩ 8 (by kernel_rfl) (by kernel_rfl) (by kernel_rfl) (by kernel_rfl)) ?_
  intro W base args ds gs before hval0 hW hcnd hsz0 _
  have hval : ∀ (j : Nat) t v, Tryz.f4.params[j]? = some t → args[j]? = some v → Value.okWide Tryz.prog W .any base t v := hval0
  have hW' := hW
  obtain ⟨p, q, hA0, hV, rfl, hfz, hnd⟩ := hW
  have hA : DataW.TrodAll enc Tryz.prog W 0 (fun _ => true) true Tryz.f4.params.toList args.toList ds p := hA0
  rw [Tryz.params4] at hA hval
  obtain ⟨v0, vs0, d0, ds0, p0, q0, hargs, rfl, rfl, h0, r0⟩ := trodAll_cons hA
  obtain ⟨v1, vs1, d1, ds1, p1, q1, rfl, rfl, rfl, h1, r1⟩ := trodAll_cons r0
  obtain ⟨rfl, rfl, rfl⟩ := trodAll_nil r1
  obtain rfl : args = #[v0, v1] := by cases args; simp_all
  obtain ⟨rfl, rfl⟩ := trodVars_none hV
  have hsz := hsz0
  have wt0 := weights_of hsz (i := 0) (show _ = some 32 from rfl) rfl
  have wt1 := weights_of hsz (i := 1) (show _ = some 39 from rfl) rfl
  have k0 := h0
  have k1 := h1
  have lt0 : ∀ x ∈ p0, x.block < W.heap.size := by obtain ⟨m, hm⟩ := k0; exact DataW.trod_lt m _ _ _ hm
  have lt1 : ∀ x ∈ p1, x.block < W.heap.size := by obtain ⟨m, hm⟩ := k1; exact DataW.trod_lt m _ _ _ hm
  obtain ⟨cs0, es0, rfl, rd0⟩ := struct_reads Tryz.underlying32 kinds32 rfl (hval 0 32 _ rfl rfl) k0 wt0
  obtain ⟨s0, w0, V0, l0, rfl, su0, op0, z0, dn0⟩ := U.sc_is rd0
  obtain ⟨es1, rd1⟩ := slice_reads Tryz.underlying39 kinds39 rfl (hval 1 39 _ rfl rfl) k1 wt1
  obtain ⟨V1, c1, iv1, z1, dn1⟩ := U.ints_is rd1
  clear hA0 hval0
  refine (U.law2_den s0 dn0 dn1 op0 iv1 su0 (fun o h => Nat.le_trans (z0 o h) (by decide)) z1).mono fun e W' ⟨he, bel⟩ => ?_
  subst he
  exact ⟨_, rfl, _, _, _, [], _, [], hW', trodAll_mk1 (shut_bool Tryz.underlying4 _), (trodAll_cons_mk (Below.trod Facts.laidOut (by kernel_rfl) (of_decide_eq_true (by kernel_rfl)) k0 bel lt0) (trodAll_cons_mk (Below.trod Facts.laidOut (by kernel_rfl) (of_decide_eq_true (by kernel_rfl)) k1 bel lt1) trodAll_mk0)), rfl, bel.frame _, fun h => by cases h⟩

theorem over : Rows.historyFragmentsRow.holds Tryz.pinned (OpenSpec.ofChange Rows.historyFragmentsSpec) :=
  OpenClaim.holds_of_wide 4 Tryz.f4 rfl rfl rfl rfl rfl rfl rfl ⟨rfl, rfl, rfl, rfl, rfl⟩ rfl rfl rfl rfl rfl historyFragmentsFacts.func Tryz.func4 historyFragmentsFacts.joined
    historyFragmentsFacts.inst historyFragmentsFacts.wrapper
    (fun os started H enc _ => lifted os started H enc)
end HFRow

theorem historyFragmentsProved : Rows.HistoryFragmentsSaid := HFRow.over
#print axioms historyFragmentsProved
end Go.Proofs.YtokaedcpmiklhaaGreat
