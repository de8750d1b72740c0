/- RulesSessions: for every setup and every list of integers the law about sessions of frames returns true, and what was handed in reads as it did. No condition beyond the given statement. -/
import Derived.Test.YtogdmfknfkcjdaaGreatFRS
import Derived.Test.YtogdmfknfkcjdaaGreatRsG
import Derived.WalkKit
import Derived.ProofKit
import Derived.OpenShut
import Derived.ShutString
import Derived.ChangeOld
import Derived.Below
import Derived.ChangeSlices
namespace Go.Proofs.YtogdmfknfkcjdaaGreat
open Go Go.Eng Go.ChangeShapes Go.WideShapes Go.ChangeAt Go.RowKit

namespace RSRow
def setupSh : List Sh := [.int .i64, .bool, .int .i64, .bool, .int .i64, .bool, .int .i64, .int .i64]
theorem setupSh_is : shs Tryz.prog 27 = some setupSh := by kernel_rfl
theorem setupSh_len : Tryz.prog.cellsOf 27 = setupSh.length := by kernel_rfl
theorem one_cell : Tryz.prog.cellsOf 3 = 1 := by kernel_rfl

theorem cells (c : List Value) (h : FitsL setupSh c) : ∃ (x y d m r : Int) (fx fy fd : Bool), c = [.int .i64 x, .bool fx, .int .i64 y, .bool fy, .int .i64 d, .bool fd, .int .i64 m, .int .i64 r] ∧
    (-9223372036854775808 ≤ x ∧ x ≤ 9223372036854775807) ∧ (-9223372036854775808 ≤ y ∧ y ≤ 9223372036854775807) := by
  have e : ∀ n, IntKind.i64.has n → -9223372036854775808 ≤ n ∧ n ≤ 9223372036854775807 := fun n h => h
  cases h with | cons _ _ _ _ h1 h => cases h with | cons _ _ _ _ h2 h => cases h with | cons _ _ _ _ h3 h => cases h with | cons _ _ _ _ h4 h =>
  cases h with | cons _ _ _ _ h5 h => cases h with | cons _ _ _ _ h6 h => cases h with | cons _ _ _ _ h7 h => cases h with | cons _ _ _ _ h8 h =>
  cases h
  obtain ⟨x, rfl, hx⟩ := h1
  obtain ⟨fx, rfl⟩ := h2
  obtain ⟨y, rfl, hy⟩ := h3
  obtain ⟨fy, rfl⟩ := h4
  obtain ⟨d, rfl, _⟩ := h5
  obtain ⟨fd, rfl⟩ := h6
  obtain ⟨m, rfl, _⟩ := h7
  obtain ⟨r, rfl, _⟩ := h8
  exact ⟨x, y, d, m, r, fx, fy, fd, rfl, e _ hx, e _ hy⟩

theorem of_wf {n : Int} (h : (Lit.int .i64 n).wf = true) : -9223372036854775808 ≤ n ∧ n ≤ 9223372036854775807 := by
  have h' : (decide (IntKind.i64.min ≤ n) && decide (n ≤ IntKind.i64.max)) = true := h
  have q := Bool.and_eq_true_iff.1 h'
  exact ⟨of_decide_eq_true q.1, of_decide_eq_true q.2⟩

set_option maxRecDepth 100000 in
theorem argI {H : Type} {enc : TypeId × Value → H} {W : World} {r : Reach} {base : Nat} {v : Value} {d : DataW H} {p : List MemPlace} (h0 : Value.okWide Tryz.prog W r base 28 v) (k : DataW.Trod enc Tryz.prog W 0 (fun _ => true) true 28 v d p) : Rs.ArgI W v := by
  obtain ⟨a0, len, cap, rfl⟩ := okWide_slice Tryz.underlying28 h0
  obtain ⟨fuel, hf⟩ := k
  rcases open_ints Tryz.underlying28 Tryz.underlying3 one_cell hf with ⟨hcs, hx⟩ | ⟨a, len', cap', zs, hcs, _, hl, hm, hz, hx, hcell, hw⟩
  · simp [Value.cells] at hcs
    obtain ⟨rfl, rfl, rfl⟩ := hcs
    exact .none
  · simp [Value.cells] at hcs
    obtain ⟨rfl, rfl, rfl⟩ := hcs
    have hh : Tryz.prog.underlying 28 = some (.slice 3) := Tryz.underlying28
    simp only [Value.okWide, hh, Cell.okWide, Cell.ok] at h0
    obtain ⟨_, _, _, hsp, row, cells, hsh, _⟩ := h0
    obtain ⟨blk, off, sp⟩ := a
    cases hsp
    unfold World.shape? at hsh
    split at hsh
    · rename_i c e fz hblk
      refine .some blk off len cap c e fz (fun i => zs.getD i 0) hl hblk fun i hi => ?_
      have hi' : i < zs.length := by rw [hz]; simp; omega
      have hc := hcell i hi'
      rw [add_plain] at hc
      unfold World.cell? at hc
      simp only [hblk] at hc
      refine ⟨by simpa using hc, ?_⟩
      have hm := hw (zs.getD i 0) (by rw [List.getD_eq_getElem?_getD, List.getElem?_eq_getElem hi']; exact List.getElem_mem hi')
      exact of_wf hm
    · cases hsh

set_option maxRecDepth 100000 in
theorem lifted (os : Os) (started : os.Started) (H : Type) (enc : TypeId × Value → H) :
    ReturnsInHanded {} Tryz.checked os 3 .any (Rows.rulesSessionsSpec.pre6 enc Tryz.prog Tryz.f3 Rows.rulesSessionsRow.domain false) (Rows.rulesSessionsSpec.post enc Tryz.prog Tryz.f3 false true false false) := by
  refine returnsInHanded_of_change (C := Tryz.checked) Facts.own started (by kernel_rfl) Tryz.func3
    (ChangeSpec.witness6 (enc := enc) (C := Tryz.checked) false ⟨#[], #[.agg ⟨[.int .i64 0, .bool false, .int .i64 0, .bool false, .int .i64 0, .bool false, .int .i64 0, .int .i64 0]⟩, .slice none 0 0], []⟩ 8 (by kernel_rfl) (by kernel_rfl) (by kernel_rfl) (by kernel_rfl)) ?_
  intro W base args ds gs before hval0 hW hcnd _
  have hval : ∀ (j : Nat) t v, Tryz.f3.params[j]? = some t → args[j]? = some v → Value.okWide Tryz.prog W .any base t v := hval0
  have hW' := hW
  obtain ⟨p, q, hA0, hV, rfl, hfz, hnd⟩ := hW
  have hA : DataW.TrodAll enc Tryz.prog W 0 (fun _ => true) true Tryz.f3.params.toList args.toList ds p := hA0
  rw [Tryz.params3] at hA hval
  obtain ⟨v0, vs0, d0, ds0, p0, q0, hargs, rfl, rfl, h0, r0⟩ := trodAll_cons hA
  obtain ⟨v1, vs1, d1, ds1, p1, q1, rfl, rfl, rfl, h1, r1⟩ := trodAll_cons r0
  obtain ⟨rfl, rfl, rfl⟩ := trodAll_nil r1
  obtain rfl : args = #[v0, v1] := by cases args; simp_all
  obtain ⟨rfl, rfl⟩ := trodVars_none hV
  have k0 := h0
  have k1 := h1
  have lt0 : ∀ x ∈ p0, x.block < W.heap.size := by obtain ⟨m, hm⟩ := k0; exact DataW.trod_lt m _ _ _ hm
  have lt1 : ∀ x ∈ p1, x.block < W.heap.size := by obtain ⟨m, hm⟩ := k1; exact DataW.trod_lt m _ _ _ hm
  obtain ⟨c, rfl, fc⟩ := fits_struct ⟨_, Tryz.underlying27⟩ setupSh_is setupSh_len (hval 0 27 v0 rfl rfl)
  obtain ⟨x, y, d, m, r, fx, fy, fd, hc, hx, hy⟩ := cells c.toList fc
  obtain rfl : c = ⟨[.int .i64 x, .bool fx, .int .i64 y, .bool fy, .int .i64 d, .bool fd, .int .i64 m, .int .i64 r]⟩ := Array.ext' hc
  have hI : Rs.ArgI W v1 := argI (hval 1 28 v1 rfl rfl) k1
  clear hA0 hval0
  refine (Rs.walk x y d m r fx fy fd v1 hx hy W hI).mono fun e W' ⟨he, bel⟩ => ?_
  subst he
  exact ⟨_, rfl, _, _, _, [], _, [], hW', trodAll_mk1 (shut_bool Tryz.underlying4 _), (trodAll_cons_mk (Below.trod Facts.laidOut (by kernel_rfl) (of_decide_eq_true (by kernel_rfl)) k0 bel lt0) (trodAll_cons_mk (Below.trod Facts.laidOut (by kernel_rfl) (of_decide_eq_true (by kernel_rfl)) k1 bel lt1) trodAll_mk0)), rfl, bel.frame _, fun h => by cases h⟩

theorem over : Rows.rulesSessionsRow.holds Tryz.pinned (OpenSpec.ofChange Rows.rulesSessionsSpec) :=
  OpenClaim.holds_of_wide 3 Tryz.f3 rfl rfl rfl rfl rfl rfl rfl ⟨rfl, rfl, rfl, rfl, rfl⟩ rfl rfl rfl rfl rfl rulesSessionsFacts.func Tryz.func3 rulesSessionsFacts.joined
    rulesSessionsFacts.inst rulesSessionsFacts.wrapper
    (fun os started H enc _ => lifted os started H enc)
end RSRow

theorem rulesSessionsProved : Rows.RulesSessionsSaid := RSRow.over
#print axioms rulesSessionsProved
end Go.Proofs.YtogdmfknfkcjdaaGreat
