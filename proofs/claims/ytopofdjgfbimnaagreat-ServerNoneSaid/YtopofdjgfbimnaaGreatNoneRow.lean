/- ServerNone: for every session, number and bytes the law about servers that nobody made returns true, and what was handed in reads as it did. No condition beyond the given statement. -/
import Derived.Test.YtopofdjgfbimnaaGreatFNone
import Derived.Test.YtopofdjgfbimnaaGreatAwake
import Derived.WalkKit
import Derived.ProofKit
import Derived.OpenShut
import Derived.ShutString
import Derived.ChangeOld
import Derived.Below
namespace Go.Proofs.YtopofdjgfbimnaaGreat
open Go Go.Eng Go.ChangeShapes Go.WideShapes Go.ChangeAt Go.RowKit

namespace NoneRow

noncomputable def run (val : Nat → Value) (hi : ∀ n, ∃ k i, val n = .int k i) (ok : ∀ r ∈ ([] : List SRule), r.good val) (x : Option (Nat × Nat)) : Bool :=
  isTrue (@callFF ⟨val, hi⟩ (@SymT.mk ⟨val, hi⟩ [] ok) Tryz.prog ⟨506, 508, 376⟩ (prim1 10 primTrue) 100000 200 5 [sv 0, sv 1, lsl x] m1)

theorem runNone (val : Nat → Value) (hi : ∀ n, ∃ k i, val n = .int k i) (ok : ∀ r ∈ ([] : List SRule), r.good val) : run val hi ok none = true := by kernel_rfl
theorem runBig (val : Nat → Value) (hi : ∀ n, ∃ k i, val n = .int k i) (ok : ∀ r ∈ ([] : List SRule), r.good val) (k cap : Nat) : run val hi ok (some (k, cap)) = true := by kernel_rfl

theorem runAll (val : Nat → Value) (hi : ∀ n, ∃ k i, val n = .int k i) (ok : ∀ r ∈ ([] : List SRule), r.good val) (x : Option (Nat × Nat)) : run val hi ok x = true := by
  match x with
  | none => exact runNone val hi ok
  | some (k, cap) => exact runBig val hi ok k cap

theorem walk (a0 : Int) (a1 : Int) (s2 : Value) (w : World) (f2 : Fits1 .slice s2) :
    Calls Tryz.prog 5 #[.int .i64 a0, .int .i64 a1, s2] w fun e w' => e = .returned (.bool true) ∧ Below w.heap.size w w' := by
  obtain ⟨cs, hcs⟩ : ∃ cs : List Value, cs = ([.int .i64 a0] ++ ([.int .i64 a1] ++ ([s2] ++ []))) := ⟨_, rfl⟩
  have ok : ∀ r ∈ ([] : List SRule), r.good (cellVal cs) := fun r h => by cases h
  letI SV : SymV := ⟨cellVal cs, cellVal_int cs⟩
  letI ST : SymT := ⟨[], ok⟩
  have len0 : ([.int .i64 a0] : List Value).length = 1 := rfl
  have len1 : ([.int .i64 a1] : List Value).length = 1 := rfl
  have len2 : ([s2] : List Value).length = 1 := rfl
  have v0 : cellVal cs 0 = .int .i64 a0 := by
    rw [hcs, show 0 = 0 by omega]
    exact cellVal_here rfl
  have v1 : cellVal cs 1 = .int .i64 a1 := by
    rw [hcs, show 1 = (1 + 0) by omega, cellVal_skip len0]
    exact cellVal_here rfl
  obtain ⟨x, v2⟩ := lsl_of (φ := phi1) rfl f2
  exact true_call pok (prim1_ok awake) (runAll (cellVal cs) (cellVal_int cs) ok x) (.cons _ _ _ _ (.sym _ _ _ _ v0.symm) (.cons _ _ _ _ (.sym _ _ _ _ v1.symm) (.cons _ _ _ _ v2 .nil))) w

set_option maxRecDepth 100000 in
theorem lifted (os : Os) (started : os.Started) (H : Type) (enc : TypeId × Value → H) :
    ReturnsInHanded {} Tryz.checked os 5 .any (Rows.serverNoneSpec.pre6 enc Tryz.prog Tryz.f5 Rows.serverNoneRow.domain false) (Rows.serverNoneSpec.post enc Tryz.prog Tryz.f5 false true false false) := by
  refine returnsInHanded_of_change (C := Tryz.checked) Facts.own started (by kernel_rfl) Tryz.func5
    (ChangeSpec.witness6 (enc := enc) (C := Tryz.checked) false ⟨#[], #[.int .i64 0, .int .i64 0, .slice none 0 0], []⟩ 8 (by kernel_rfl) (by kernel_rfl) (by kernel_rfl) (by kernel_rfl)) ?_
  intro W base args ds gs before hval0 hW hcnd _
  have hval : ∀ (j : Nat) t v, Tryz.f5.params[j]? = some t → args[j]? = some v → Value.okWide Tryz.prog W .any base t v := hval0
  have hW' := hW
  obtain ⟨p, q, hA0, hV, rfl, hfz, hnd⟩ := hW
  have hA : DataW.TrodAll enc Tryz.prog W 0 (fun _ => true) true Tryz.f5.params.toList args.toList ds p := hA0
  rw [Tryz.params5] at hA hval
  obtain ⟨v0, vs0, d0, ds0, p0, q0, hargs, rfl, rfl, h0, r0⟩ := trodAll_cons hA
  obtain ⟨v1, vs1, d1, ds1, p1, q1, rfl, rfl, rfl, h1, r1⟩ := trodAll_cons r0
  obtain ⟨v2, vs2, d2, ds2, p2, q2, rfl, rfl, rfl, h2, r2⟩ := trodAll_cons r1
  obtain ⟨rfl, rfl, rfl⟩ := trodAll_nil r2
  obtain rfl : args = #[v0, v1, v2] := by cases args; simp_all
  obtain ⟨rfl, rfl⟩ := trodVars_none hV
  have k0 := h0
  have k1 := h1
  have k2 := h2
  have lt0 : ∀ x ∈ p0, x.block < W.heap.size := by obtain ⟨m, hm⟩ := k0; exact DataW.trod_lt m _ _ _ hm
  have lt1 : ∀ x ∈ p1, x.block < W.heap.size := by obtain ⟨m, hm⟩ := k1; exact DataW.trod_lt m _ _ _ hm
  have lt2 : ∀ x ∈ p2, x.block < W.heap.size := by obtain ⟨m, hm⟩ := k2; exact DataW.trod_lt m _ _ _ hm
  obtain ⟨a0, rfl⟩ := okWide_int Tryz.underlying3 (hval 0 3 v0 rfl rfl)
  obtain ⟨a1, rfl⟩ := okWide_int Tryz.underlying3 (hval 1 3 v1 rfl rfl)
  have f2 : Fits1 .slice v2 := fits1_slice ⟨_, Tryz.underlying33⟩ (hval 2 33 v2 rfl rfl)
  clear hA0 hval0
  refine (walk a0 a1 v2 W f2).mono fun e W' ⟨he, bel⟩ => ?_
  subst he
  exact ⟨_, rfl, _, _, _, [], _, [], hW', trodAll_mk1 (shut_bool Tryz.underlying4 _), (trodAll_cons_mk (Below.trod Facts.laidOut (by kernel_rfl) (of_decide_eq_true (by kernel_rfl)) k0 bel lt0) (trodAll_cons_mk (Below.trod Facts.laidOut (by kernel_rfl) (of_decide_eq_true (by kernel_rfl)) k1 bel lt1) (trodAll_cons_mk (Below.trod Facts.laidOut (by kernel_rfl) (of_decide_eq_true (by kernel_rfl)) k2 bel lt2) trodAll_mk0))), rfl, bel.frame _, fun h => by cases h⟩

theorem over : Rows.serverNoneRow.holds Tryz.pinned (OpenSpec.ofChange Rows.serverNoneSpec) :=
  OpenClaim.holds_of_wide 5 Tryz.f5 rfl rfl rfl rfl rfl rfl rfl ⟨rfl, rfl, rfl, rfl, rfl⟩ rfl rfl rfl rfl rfl serverNoneFacts.func Tryz.func5 serverNoneFacts.joined
    serverNoneFacts.inst serverNoneFacts.wrapper
    (fun os started H enc _ => lifted os started H enc)
end NoneRow

theorem serverNoneProved : Rows.ServerNoneSaid := NoneRow.over
#print axioms serverNoneProved
end Go.Proofs.YtopofdjgfbimnaaGreat
