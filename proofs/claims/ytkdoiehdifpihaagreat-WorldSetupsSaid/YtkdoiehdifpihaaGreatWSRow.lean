/- WorldSetups: for every setup the law about valid setups returns true, and what was handed in reads as it did. No condition beyond the given statement. -/
import Derived.Test.YtkdoiehdifpihaaGreatFWS
import Derived.Test.YtkdoiehdifpihaaGreatWs
import Derived.WalkKit
import Derived.ProofKit
import Derived.OpenShut
import Derived.ShutString
import Derived.ChangeOld
import Derived.Below
namespace Go.Proofs.YtkdoiehdifpihaaGreat
open Go Go.Eng Go.ChangeShapes Go.WideShapes Go.ChangeAt Go.RowKit

namespace WSRow
def setupSh : List Sh := [.int .i64, .bool, .int .i64, .bool, .int .i64, .bool, .int .i64, .int .i64]
theorem setupSh_is : shs Tryz.prog 27 = some setupSh := by kernel_rfl
theorem setupSh_len : Tryz.prog.cellsOf 27 = setupSh.length := by kernel_rfl

theorem cells (c : List Value) (h : FitsL setupSh c) : ∃ (x y d m r : Int) (fx fy fd : Bool), c = [.int .i64 x, .bool fx, .int .i64 y, .bool fy, .int .i64 d, .bool fd, .int .i64 m, .int .i64 r] ∧
    (-9223372036854775808 ≤ x ∧ x ≤ 9223372036854775807) ∧ (-9223372036854775808 ≤ y ∧ y ≤ 9223372036854775807) := by
  have e : ∀ n, IntKind.i64.has n → -9223372036854775808 ≤ n ∧ n ≤ 9223372036854775807 := fun n h => h
  cases h with | cons _ _ _ _ h1 h => cases h with | cons _ _ _ _ h2 h => cases h with | cons _ _ _ _ h3 h => cases h with | cons _ _ _ _ h4 h =>
  cases h with | cons _ _ _ _ h5 h => cases h with | cons _ _ _ _ h6 h => cases h with | cons _ _ _ _ h7 h => cases h with | cons _ _ _ _ h8 h =>
  cases h
  obtain ⟨x, rfl, hx⟩ := h1
  obtain ⟨fx, rfl⟩ := h2
  obtain ⟨y, rfl, hy⟩ := h3
  obtain ⟨fy, rfl⟩ := h4
  obtain ⟨d, rfl, _⟩ := h5
  obtain ⟨fd, rfl⟩ := h6
  obtain ⟨m, rfl, _⟩ := h7
  obtain ⟨r, rfl, _⟩ := h8
  exact ⟨x, y, d, m, r, fx, fy, fd, rfl, e _ hx, e _ hy⟩

set_option maxRecDepth 100000 in
theorem lifted (os : Os) (started : os.Started) (H : Type) (enc : TypeId × Value → H) :
    ReturnsInHanded {} Tryz.checked os 4 .any (Rows.worldSetupsSpec.pre6 enc Tryz.prog Tryz.f4 Rows.worldSetupsRow.domain false) (Rows.worldSetupsSpec.post enc Tryz.prog Tryz.f4 false true false false) := by
  refine returnsInHanded_of_change (C := Tryz.checked) Facts.own started (by kernel_rfl) Tryz.func4
    (ChangeSpec.witness6 (enc := enc) (C := Tryz.checked) false ⟨#[], #[.agg ⟨[.int .i64 0, .bool false, .int .i64 0, .bool false, .int .i64 0, .bool false, .int .i64 0, .int .i64 0]⟩], []⟩ 8 (by kernel_rfl) (by kernel_rfl) (by kernel_rfl) (by kernel_rfl)) ?_
  intro W base args ds gs before hval0 hW hcnd _
  have hval : ∀ (j : Nat) t v, Tryz.f4.params[j]? = some t → args[j]? = some v → Value.okWide Tryz.prog W .any base t v := hval0
  have hW' := hW
  obtain ⟨p, q, hA0, hV, rfl, hfz, hnd⟩ := hW
  have hA : DataW.TrodAll enc Tryz.prog W 0 (fun _ => true) true Tryz.f4.params.toList args.toList ds p := hA0
  rw [Tryz.params4] at hA hval
  obtain ⟨v0, vs0, d0, ds0, p0, q0, hargs, rfl, rfl, h0, r0⟩ := trodAll_cons hA
  obtain ⟨rfl, rfl, rfl⟩ := trodAll_nil r0
  obtain rfl : args = #[v0] := by cases args; simp_all
  obtain ⟨rfl, rfl⟩ := trodVars_none hV
  have k0 := h0
  have lt0 : ∀ x ∈ p0, x.block < W.heap.size := by obtain ⟨m, hm⟩ := k0; exact DataW.trod_lt m _ _ _ hm
  obtain ⟨c, rfl, fc⟩ := fits_struct ⟨_, Tryz.underlying27⟩ setupSh_is setupSh_len (hval 0 27 v0 rfl rfl)
  obtain ⟨x, y, d, m, r, fx, fy, fd, hc, hx, hy⟩ := cells c.toList fc
  obtain rfl : c = ⟨[.int .i64 x, .bool fx, .int .i64 y, .bool fy, .int .i64 d, .bool fd, .int .i64 m, .int .i64 r]⟩ := Array.ext' hc
  clear hA0 hval0
  refine (Ws.walk x y d m r fx fy fd hx hy W).mono fun e W' ⟨he, bel⟩ => ?_
  subst he
  exact ⟨_, rfl, _, _, _, [], _, [], hW', trodAll_mk1 (shut_bool Tryz.underlying4 _), (trodAll_cons_mk (Below.trod Facts.laidOut (by kernel_rfl) (of_decide_eq_true (by kernel_rfl)) k0 bel lt0) trodAll_mk0), rfl, bel.frame _, fun h => by cases h⟩

theorem over : Rows.worldSetupsRow.holds Tryz.pinned (OpenSpec.ofChange Rows.worldSetupsSpec) :=
  OpenClaim.holds_of_wide 4 Tryz.f4 rfl rfl rfl rfl rfl rfl rfl ⟨rfl, rfl, rfl, rfl, rfl⟩ rfl rfl rfl rfl rfl worldSetupsFacts.func Tryz.func4 worldSetupsFacts.joined
    worldSetupsFacts.inst worldSetupsFacts.wrapper
    (fun os started H enc _ => lifted os started H enc)
end WSRow

theorem worldSetupsProved : Rows.WorldSetupsSaid := WSRow.over
#print axioms worldSetupsProved
end Go.Proofs.YtkdoiehdifpihaaGreat
