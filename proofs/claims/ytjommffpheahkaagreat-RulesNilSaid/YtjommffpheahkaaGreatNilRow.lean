/- RulesNil: for every session, call and handle the law about rooms that nobody made returns true, and what was handed in reads as it did. No condition beyond the given statement. -/
import Derived.Test.YtjommffpheahkaaGreatFNil
import Derived.Test.YtjommffpheahkaaGreatAwake
import Derived.WalkKit
import Derived.ProofKit
import Derived.OpenShut
import Derived.ShutString
import Derived.ChangeOld
import Derived.Below
namespace Go.Proofs.YtjommffpheahkaaGreat
open Go Go.Eng Go.ChangeShapes Go.WideShapes Go.ChangeAt Go.RowKit

namespace NilRow
def callSh : List Sh := [.int .i64, .int .i64, .int .i64, .int .i64, .int .i64, .int .i64, .int .i64, .int .i64, .int .i64, .slice, .int .i64, .bool, .int .i64, .bool, .int .i64, .bool, .int .i64, .bool, .int .i64, .bool, .int .i64, .bool, .int .i64, .bool, .int .i64, .bool, .int .i64, .bool, .int .i64, .bool, .int .i64, .bool, .int .i64, .bool, .int .i64, .int .i64, .int .i64, .int .i64, .int .i64, .int .i64, .int .i64, .int .i64, .int .i64]
def handleSh : List Sh := [.int .i64, .int .i64]
theorem callSh_is : shs Tryz.prog 40 = some callSh := by kernel_rfl
theorem handleSh_is : shs Tryz.prog 23 = some handleSh := by kernel_rfl
theorem callSh_len : Tryz.prog.cellsOf 40 = callSh.length := by kernel_rfl
theorem handleSh_len : Tryz.prog.cellsOf 23 = handleSh.length := by kernel_rfl
theorem callSh_sl : slices callSh = 1 := by kernel_rfl
theorem handleSh_sl : slices handleSh = 0 := by kernel_rfl

noncomputable def run (n : Int) (ns hs : Nat → Int) (bs hb : Nat → Bool) (x : Option (Nat × Nat)) : Bool :=
  isTrue (callFF Tryz.prog ⟨368, 370⟩ (prim1 7 primTrue) 100000 200 6 [.int .i64 n, .agg ⟨lmk callSh ns bs [x]⟩, .agg ⟨lmk handleSh hs hb []⟩] m1)

theorem runNone (n : Int) (ns hs : Nat → Int) (bs hb : Nat → Bool) : run n ns hs bs hb none = true := by kernel_rfl
theorem runBig (n : Int) (ns hs : Nat → Int) (bs hb : Nat → Bool) (k cap : Nat) : run n ns hs bs hb (some (k + 13, cap)) = true := by kernel_rfl
theorem run0 (n : Int) (ns hs : Nat → Int) (bs hb : Nat → Bool) (cap : Nat) : run n ns hs bs hb (some (0, cap)) = true := by kernel_rfl
theorem run1 (n : Int) (ns hs : Nat → Int) (bs hb : Nat → Bool) (cap : Nat) : run n ns hs bs hb (some (1, cap)) = true := by kernel_rfl
theorem run2 (n : Int) (ns hs : Nat → Int) (bs hb : Nat → Bool) (cap : Nat) : run n ns hs bs hb (some (2, cap)) = true := by kernel_rfl
theorem run3 (n : Int) (ns hs : Nat → Int) (bs hb : Nat → Bool) (cap : Nat) : run n ns hs bs hb (some (3, cap)) = true := by kernel_rfl
theorem run4 (n : Int) (ns hs : Nat → Int) (bs hb : Nat → Bool) (cap : Nat) : run n ns hs bs hb (some (4, cap)) = true := by kernel_rfl
theorem run5 (n : Int) (ns hs : Nat → Int) (bs hb : Nat → Bool) (cap : Nat) : run n ns hs bs hb (some (5, cap)) = true := by kernel_rfl
theorem run6 (n : Int) (ns hs : Nat → Int) (bs hb : Nat → Bool) (cap : Nat) : run n ns hs bs hb (some (6, cap)) = true := by kernel_rfl
theorem run7 (n : Int) (ns hs : Nat → Int) (bs hb : Nat → Bool) (cap : Nat) : run n ns hs bs hb (some (7, cap)) = true := by kernel_rfl
theorem run8 (n : Int) (ns hs : Nat → Int) (bs hb : Nat → Bool) (cap : Nat) : run n ns hs bs hb (some (8, cap)) = true := by kernel_rfl
theorem run9 (n : Int) (ns hs : Nat → Int) (bs hb : Nat → Bool) (cap : Nat) : run n ns hs bs hb (some (9, cap)) = true := by kernel_rfl
theorem run10 (n : Int) (ns hs : Nat → Int) (bs hb : Nat → Bool) (cap : Nat) : run n ns hs bs hb (some (10, cap)) = true := by kernel_rfl
theorem run11 (n : Int) (ns hs : Nat → Int) (bs hb : Nat → Bool) (cap : Nat) : run n ns hs bs hb (some (11, cap)) = true := by kernel_rfl
theorem run12 (n : Int) (ns hs : Nat → Int) (bs hb : Nat → Bool) (cap : Nat) : run n ns hs bs hb (some (12, cap)) = true := by kernel_rfl

theorem runAll (n : Int) (ns hs : Nat → Int) (bs hb : Nat → Bool) (x : Option (Nat × Nat)) : run n ns hs bs hb x = true := by
  match x with
  | none => exact runNone n ns hs bs hb
  | some (0, cap) => exact run0 n ns hs bs hb cap
  | some (1, cap) => exact run1 n ns hs bs hb cap
  | some (2, cap) => exact run2 n ns hs bs hb cap
  | some (3, cap) => exact run3 n ns hs bs hb cap
  | some (4, cap) => exact run4 n ns hs bs hb cap
  | some (5, cap) => exact run5 n ns hs bs hb cap
  | some (6, cap) => exact run6 n ns hs bs hb cap
  | some (7, cap) => exact run7 n ns hs bs hb cap
  | some (8, cap) => exact run8 n ns hs bs hb cap
  | some (9, cap) => exact run9 n ns hs bs hb cap
  | some (10, cap) => exact run10 n ns hs bs hb cap
  | some (11, cap) => exact run11 n ns hs bs hb cap
  | some (12, cap) => exact run12 n ns hs bs hb cap
  | some (k + 13, cap) => exact runBig n ns hs bs hb k cap

theorem walk (n : Int) (c h : Array Value) (w : World) (hc : FitsL callSh c.toList) (hh : FitsL handleSh h.toList) :
    Calls Tryz.prog 6 #[.int .i64 n, .agg c, .agg h] w fun e w' => e = .returned (.bool true) ∧ Below w.heap.size w w' := by
  obtain ⟨ns, bs, sl, l1, _, v1⟩ := fits_mk (φ := phi1) rfl hc
  obtain ⟨hs, hb, sl', l2, _, v2⟩ := fits_mk (φ := phi1) rfl hh
  rw [callSh_sl] at l1
  rw [handleSh_sl] at l2
  match sl, l1, sl', l2 with
  | [x], _, [], _ =>
    exact true_call pok (prim1_ok awake) (runAll n ns hs bs hb x) (.cons _ _ _ _ (.int _ n) (.cons _ _ _ _ (.agg _ _ v1) (.cons _ _ _ _ (.agg _ _ v2) .nil))) w

set_option maxRecDepth 100000 in
theorem lifted (os : Os) (started : os.Started) (H : Type) (enc : TypeId × Value → H) :
    ReturnsInHanded {} Tryz.checked os 6 .any (Rows.rulesNilSpec.pre6 enc Tryz.prog Tryz.f6 Rows.rulesNilRow.domain false) (Rows.rulesNilSpec.post enc Tryz.prog Tryz.f6 false true false false) := by
  refine returnsInHanded_of_change (C := Tryz.checked) Facts.own started (by kernel_rfl) Tryz.func6
    (ChangeSpec.witness6 (enc := enc) (C := Tryz.checked) false ⟨#[], #[.int .i64 0, .agg ⟨lmk callSh (fun _ => 0) (fun _ => false) [none]⟩, .agg ⟨lmk handleSh (fun _ => 0) (fun _ => false) []⟩], []⟩ 8 (by kernel_rfl) (by kernel_rfl) (by kernel_rfl) (by kernel_rfl)) ?_
  intro W base args ds gs before hval0 hW hcnd _
  have hval : ∀ (j : Nat) t v, Tryz.f6.params[j]? = some t → args[j]? = some v → Value.okWide Tryz.prog W .any base t v := hval0
  have hW' := hW
  obtain ⟨p, q, hA0, hV, rfl, hfz, hnd⟩ := hW
  have hA : DataW.TrodAll enc Tryz.prog W 0 (fun _ => true) true Tryz.f6.params.toList args.toList ds p := hA0
  rw [Tryz.params6] at hA hval
  obtain ⟨v0, vs0, d0, ds0, p0, q0, hargs, rfl, rfl, h0, r0⟩ := trodAll_cons hA
  obtain ⟨v1, vs1, d1, ds1, p1, q1, rfl, rfl, rfl, h1, r1⟩ := trodAll_cons r0
  obtain ⟨v2, vs2, d2, ds2, p2, q2, rfl, rfl, rfl, h2, r2⟩ := trodAll_cons r1
  obtain ⟨rfl, rfl, rfl⟩ := trodAll_nil r2
  obtain rfl : args = #[v0, v1, v2] := by cases args; simp_all
  obtain ⟨rfl, rfl⟩ := trodVars_none hV
  have k0 := h0
  have k1 := h1
  have k2 := h2
  have lt0 : ∀ x ∈ p0, x.block < W.heap.size := by obtain ⟨m, hm⟩ := k0; exact DataW.trod_lt m _ _ _ hm
  have lt1 : ∀ x ∈ p1, x.block < W.heap.size := by obtain ⟨m, hm⟩ := k1; exact DataW.trod_lt m _ _ _ hm
  have lt2 : ∀ x ∈ p2, x.block < W.heap.size := by obtain ⟨m, hm⟩ := k2; exact DataW.trod_lt m _ _ _ hm
  obtain ⟨a0, rfl⟩ := okWide_int Tryz.underlying3 (hval 0 3 v0 rfl rfl)
  obtain ⟨c, rfl, fc⟩ := fits_struct ⟨_, Tryz.underlying40⟩ callSh_is callSh_len (hval 1 40 v1 rfl rfl)
  obtain ⟨h, rfl, fh⟩ := fits_struct ⟨_, Tryz.underlying23⟩ handleSh_is handleSh_len (hval 2 23 v2 rfl rfl)
  clear hA0 hval0
  refine (walk a0 c h W fc fh).mono fun e W' ⟨he, bel⟩ => ?_
  subst he
  exact ⟨_, rfl, _, _, _, [], _, [], hW', trodAll_mk1 (shut_bool Tryz.underlying4 _), (trodAll_cons_mk (Below.trod Facts.laidOut (by kernel_rfl) (of_decide_eq_true (by kernel_rfl)) k0 bel lt0) (trodAll_cons_mk (Below.trod Facts.laidOut (by kernel_rfl) (of_decide_eq_true (by kernel_rfl)) k1 bel lt1) (trodAll_cons_mk (Below.trod Facts.laidOut (by kernel_rfl) (of_decide_eq_true (by kernel_rfl)) k2 bel lt2) trodAll_mk0))), rfl, bel.frame _, fun h => by cases h⟩

theorem over : Rows.rulesNilRow.holds Tryz.pinned (OpenSpec.ofChange Rows.rulesNilSpec) :=
  OpenClaim.holds_of_wide 6 Tryz.f6 rfl rfl rfl rfl rfl rfl rfl ⟨rfl, rfl, rfl, rfl, rfl⟩ rfl rfl rfl rfl rfl rulesNilFacts.func Tryz.func6 rulesNilFacts.joined
    rulesNilFacts.inst rulesNilFacts.wrapper
    (fun os started H enc _ => lifted os started H enc)
end NilRow

theorem rulesNilProved : Rows.RulesNilSaid := NilRow.over
#print axioms rulesNilProved
end Go.Proofs.YtjommffpheahkaaGreat
