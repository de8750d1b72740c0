/- WorldNil: for every body, handle, vector, tie, box and spots the law about worlds that nobody made returns true, and what was handed in reads as it did. No condition beyond the given statement. -/
import Derived.Test.YtaiobdgjfgpefaaGreatFNil
import Derived.Test.YtaiobdgjfgpefaaGreatAwake6
import Derived.WalkKit
import Derived.ProofKit
import Derived.OpenShut
import Derived.ShutString
import Derived.ChangeOld
import Derived.Below
namespace Go.Proofs.YtaiobdgjfgpefaaGreat
open Go Go.Eng Go.ChangeShapes Go.WideShapes Go.ChangeAt Go.RowKit

namespace NilRow
def sh23 : List Sh := [.int .i64, .int .i64]
theorem sh23_is : shs Tryz.prog 23 = some sh23 := by kernel_rfl
theorem sh23_len : Tryz.prog.cellsOf 23 = sh23.length := by kernel_rfl
theorem sh23_sl : slices sh23 = 0 := by kernel_rfl
def sh30 : List Sh := [.int .i64, .bool, .int .i64, .bool]
theorem sh30_is : shs Tryz.prog 30 = some sh30 := by kernel_rfl
theorem sh30_len : Tryz.prog.cellsOf 30 = sh30.length := by kernel_rfl
theorem sh30_sl : slices sh30 = 0 := by kernel_rfl
def sh36 : List Sh := [.int .i64, .int .i64, .int .i64, .int .i64]
theorem sh36_is : shs Tryz.prog 36 = some sh36 := by kernel_rfl
theorem sh36_len : Tryz.prog.cellsOf 36 = sh36.length := by kernel_rfl
theorem sh36_sl : slices sh36 = 0 := by kernel_rfl
def sh38 : List Sh := [.int .i64, .int .i64]
theorem sh38_is : shs Tryz.prog 38 = some sh38 := by kernel_rfl
theorem sh38_len : Tryz.prog.cellsOf 38 = sh38.length := by kernel_rfl
theorem sh38_sl : slices sh38 = 0 := by kernel_rfl
def sh47 : List Sh := [.int .i64, .int .i64, .int .i64, .int .i64, .slice, .int .i64, .bool, .int .i64, .bool, .int .i64, .bool, .int .i64, .bool, .int .i64, .bool, .int .i64, .bool, .int .i64, .bool, .int .i64, .bool, .int .i64, .bool, .int .i64, .bool, .bool, .int .i64]
theorem sh47_is : shs Tryz.prog 47 = some sh47 := by kernel_rfl
theorem sh47_len : Tryz.prog.cellsOf 47 = sh47.length := by kernel_rfl
theorem sh47_sl : slices sh47 = 1 := by kernel_rfl
def sh80 : List Sh := [.int .i64, .int .i64, .int .i64, .int .i64, .int .i64, .int .i64, .int .i64, .bool, .int .i64, .bool, .int .i64, .bool, .int .i64, .bool, .int .i64, .bool]
theorem sh80_is : shs Tryz.prog 80 = some sh80 := by kernel_rfl
theorem sh80_len : Tryz.prog.cellsOf 80 = sh80.length := by kernel_rfl
theorem sh80_sl : slices sh80 = 0 := by kernel_rfl

noncomputable def run (val : Nat → Value) (hi : ∀ n, ∃ k i, val n = .int k i) (ok : ∀ r ∈ ([] : List SRule), r.good val) (b0 : Nat → Bool) (b1 : Nat → Bool) (b2 : Nat → Bool) (b3 : Nat → Bool) (b4 : Nat → Bool) (b5 : Nat → Bool) (b6 : Nat → Bool) (x : Option (Nat × Nat)) : Bool :=
  isTrue (@callFF ⟨val, [], hi, ok⟩ Tryz.prog ⟨316, 318⟩ (prim1 28 primTrue) 100000 200 6 [.agg ⟨lmkP sh47 0 b0 [x]⟩, .agg ⟨lmkP sh23 27 b1 []⟩, .agg ⟨lmkP sh30 29 b2 []⟩, .agg ⟨lmkP sh80 33 b3 []⟩, .agg ⟨lmkP sh36 49 b4 []⟩, .agg ⟨lmkP sh38 53 b5 []⟩, .agg ⟨lmkP sh38 55 b6 []⟩] m1)

theorem runNone (val : Nat → Value) (hi : ∀ n, ∃ k i, val n = .int k i) (ok : ∀ r ∈ ([] : List SRule), r.good val) (b0 : Nat → Bool) (b1 : Nat → Bool) (b2 : Nat → Bool) (b3 : Nat → Bool) (b4 : Nat → Bool) (b5 : Nat → Bool) (b6 : Nat → Bool) : run val hi ok b0 b1 b2 b3 b4 b5 b6 none = true := by kernel_rfl
theorem runBig (val : Nat → Value) (hi : ∀ n, ∃ k i, val n = .int k i) (ok : ∀ r ∈ ([] : List SRule), r.good val) (b0 : Nat → Bool) (b1 : Nat → Bool) (b2 : Nat → Bool) (b3 : Nat → Bool) (b4 : Nat → Bool) (b5 : Nat → Bool) (b6 : Nat → Bool) (k cap : Nat) : run val hi ok b0 b1 b2 b3 b4 b5 b6 (some (k + 13, cap)) = true := by kernel_rfl
theorem run0 (val : Nat → Value) (hi : ∀ n, ∃ k i, val n = .int k i) (ok : ∀ r ∈ ([] : List SRule), r.good val) (b0 : Nat → Bool) (b1 : Nat → Bool) (b2 : Nat → Bool) (b3 : Nat → Bool) (b4 : Nat → Bool) (b5 : Nat → Bool) (b6 : Nat → Bool) (cap : Nat) : run val hi ok b0 b1 b2 b3 b4 b5 b6 (some (0, cap)) = true := by kernel_rfl
theorem run1 (val : Nat → Value) (hi : ∀ n, ∃ k i, val n = .int k i) (ok : ∀ r ∈ ([] : List SRule), r.good val) (b0 : Nat → Bool) (b1 : Nat → Bool) (b2 : Nat → Bool) (b3 : Nat → Bool) (b4 : Nat → Bool) (b5 : Nat → Bool) (b6 : Nat → Bool) (cap : Nat) : run val hi ok b0 b1 b2 b3 b4 b5 b6 (some (1, cap)) = true := by kernel_rfl
theorem run2 (val : Nat → Value) (hi : ∀ n, ∃ k i, val n = .int k i) (ok : ∀ r ∈ ([] : List SRule), r.good val) (b0 : Nat → Bool) (b1 : Nat → Bool) (b2 : Nat → Bool) (b3 : Nat → Bool) (b4 : Nat → Bool) (b5 : Nat → Bool) (b6 : Nat → Bool) (cap : Nat) : run val hi ok b0 b1 b2 b3 b4 b5 b6 (some (2, cap)) = true := by kernel_rfl
theorem run3 (val : Nat → Value) (hi : ∀ n, ∃ k i, val n = .int k i) (ok : ∀ r ∈ ([] : List SRule), r.good val) (b0 : Nat → Bool) (b1 : Nat → Bool) (b2 : Nat → Bool) (b3 : Nat → Bool) (b4 : Nat → Bool) (b5 : Nat → Bool) (b6 : Nat → Bool) (cap : Nat) : run val hi ok b0 b1 b2 b3 b4 b5 b6 (some (3, cap)) = true := by kernel_rfl
theorem run4 (val : Nat → Value) (hi : ∀ n, ∃ k i, val n = .int k i) (ok : ∀ r ∈ ([] : List SRule), r.good val) (b0 : Nat → Bool) (b1 : Nat → Bool) (b2 : Nat → Bool) (b3 : Nat → Bool) (b4 : Nat → Bool) (b5 : Nat → Bool) (b6 : Nat → Bool) (cap : Nat) : run val hi ok b0 b1 b2 b3 b4 b5 b6 (some (4, cap)) = true := by kernel_rfl
theorem run5 (val : Nat → Value) (hi : ∀ n, ∃ k i, val n = .int k i) (ok : ∀ r ∈ ([] : List SRule), r.good val) (b0 : Nat → Bool) (b1 : Nat → Bool) (b2 : Nat → Bool) (b3 : Nat → Bool) (b4 : Nat → Bool) (b5 : Nat → Bool) (b6 : Nat → Bool) (cap : Nat) : run val hi ok b0 b1 b2 b3 b4 b5 b6 (some (5, cap)) = true := by kernel_rfl
theorem run6 (val : Nat → Value) (hi : ∀ n, ∃ k i, val n = .int k i) (ok : ∀ r ∈ ([] : List SRule), r.good val) (b0 : Nat → Bool) (b1 : Nat → Bool) (b2 : Nat → Bool) (b3 : Nat → Bool) (b4 : Nat → Bool) (b5 : Nat → Bool) (b6 : Nat → Bool) (cap : Nat) : run val hi ok b0 b1 b2 b3 b4 b5 b6 (some (6, cap)) = true := by kernel_rfl
theorem run7 (val : Nat → Value) (hi : ∀ n, ∃ k i, val n = .int k i) (ok : ∀ r ∈ ([] : List SRule), r.good val) (b0 : Nat → Bool) (b1 : Nat → Bool) (b2 : Nat → Bool) (b3 : Nat → Bool) (b4 : Nat → Bool) (b5 : Nat → Bool) (b6 : Nat → Bool) (cap : Nat) : run val hi ok b0 b1 b2 b3 b4 b5 b6 (some (7, cap)) = true := by kernel_rfl
theorem run8 (val : Nat → Value) (hi : ∀ n, ∃ k i, val n = .int k i) (ok : ∀ r ∈ ([] : List SRule), r.good val) (b0 : Nat → Bool) (b1 : Nat → Bool) (b2 : Nat → Bool) (b3 : Nat → Bool) (b4 : Nat → Bool) (b5 : Nat → Bool) (b6 : Nat → Bool) (cap : Nat) : run val hi ok b0 b1 b2 b3 b4 b5 b6 (some (8, cap)) = true := by kernel_rfl
theorem run9 (val : Nat → Value) (hi : ∀ n, ∃ k i, val n = .int k i) (ok : ∀ r ∈ ([] : List SRule), r.good val) (b0 : Nat → Bool) (b1 : Nat → Bool) (b2 : Nat → Bool) (b3 : Nat → Bool) (b4 : Nat → Bool) (b5 : Nat → Bool) (b6 : Nat → Bool) (cap : Nat) : run val hi ok b0 b1 b2 b3 b4 b5 b6 (some (9, cap)) = true := by kernel_rfl
theorem run10 (val : Nat → Value) (hi : ∀ n, ∃ k i, val n = .int k i) (ok : ∀ r ∈ ([] : List SRule), r.good val) (b0 : Nat → Bool) (b1 : Nat → Bool) (b2 : Nat → Bool) (b3 : Nat → Bool) (b4 : Nat → Bool) (b5 : Nat → Bool) (b6 : Nat → Bool) (cap : Nat) : run val hi ok b0 b1 b2 b3 b4 b5 b6 (some (10, cap)) = true := by kernel_rfl
theorem run11 (val : Nat → Value) (hi : ∀ n, ∃ k i, val n = .int k i) (ok : ∀ r ∈ ([] : List SRule), r.good val) (b0 : Nat → Bool) (b1 : Nat → Bool) (b2 : Nat → Bool) (b3 : Nat → Bool) (b4 : Nat → Bool) (b5 : Nat → Bool) (b6 : Nat → Bool) (cap : Nat) : run val hi ok b0 b1 b2 b3 b4 b5 b6 (some (11, cap)) = true := by kernel_rfl
theorem run12 (val : Nat → Value) (hi : ∀ n, ∃ k i, val n = .int k i) (ok : ∀ r ∈ ([] : List SRule), r.good val) (b0 : Nat → Bool) (b1 : Nat → Bool) (b2 : Nat → Bool) (b3 : Nat → Bool) (b4 : Nat → Bool) (b5 : Nat → Bool) (b6 : Nat → Bool) (cap : Nat) : run val hi ok b0 b1 b2 b3 b4 b5 b6 (some (12, cap)) = true := by kernel_rfl

theorem runAll (val : Nat → Value) (hi : ∀ n, ∃ k i, val n = .int k i) (ok : ∀ r ∈ ([] : List SRule), r.good val) (b0 : Nat → Bool) (b1 : Nat → Bool) (b2 : Nat → Bool) (b3 : Nat → Bool) (b4 : Nat → Bool) (b5 : Nat → Bool) (b6 : Nat → Bool) (x : Option (Nat × Nat)) : run val hi ok b0 b1 b2 b3 b4 b5 b6 x = true := by
  match x with
  | none => exact runNone val hi ok b0 b1 b2 b3 b4 b5 b6
  | some (0, cap) => exact run0 val hi ok b0 b1 b2 b3 b4 b5 b6 cap
  | some (1, cap) => exact run1 val hi ok b0 b1 b2 b3 b4 b5 b6 cap
  | some (2, cap) => exact run2 val hi ok b0 b1 b2 b3 b4 b5 b6 cap
  | some (3, cap) => exact run3 val hi ok b0 b1 b2 b3 b4 b5 b6 cap
  | some (4, cap) => exact run4 val hi ok b0 b1 b2 b3 b4 b5 b6 cap
  | some (5, cap) => exact run5 val hi ok b0 b1 b2 b3 b4 b5 b6 cap
  | some (6, cap) => exact run6 val hi ok b0 b1 b2 b3 b4 b5 b6 cap
  | some (7, cap) => exact run7 val hi ok b0 b1 b2 b3 b4 b5 b6 cap
  | some (8, cap) => exact run8 val hi ok b0 b1 b2 b3 b4 b5 b6 cap
  | some (9, cap) => exact run9 val hi ok b0 b1 b2 b3 b4 b5 b6 cap
  | some (10, cap) => exact run10 val hi ok b0 b1 b2 b3 b4 b5 b6 cap
  | some (11, cap) => exact run11 val hi ok b0 b1 b2 b3 b4 b5 b6 cap
  | some (12, cap) => exact run12 val hi ok b0 b1 b2 b3 b4 b5 b6 cap
  | some (k + 13, cap) => exact runBig val hi ok b0 b1 b2 b3 b4 b5 b6 k cap

theorem walk (c0 : Array Value) (c1 : Array Value) (c2 : Array Value) (c3 : Array Value) (c4 : Array Value) (c5 : Array Value) (c6 : Array Value) (w : World) (f0 : FitsL sh47 c0.toList) (f1 : FitsL sh23 c1.toList) (f2 : FitsL sh30 c2.toList) (f3 : FitsL sh80 c3.toList) (f4 : FitsL sh36 c4.toList) (f5 : FitsL sh38 c5.toList) (f6 : FitsL sh38 c6.toList) :
    Calls Tryz.prog 6 #[.agg c0, .agg c1, .agg c2, .agg c3, .agg c4, .agg c5, .agg c6] w fun e w' => e = .returned (.bool true) ∧ Below w.heap.size w w' := by
  obtain ⟨cs, hcs⟩ : ∃ cs : List Value, cs = (c0.toList ++ (c1.toList ++ (c2.toList ++ (c3.toList ++ (c4.toList ++ (c5.toList ++ (c6.toList ++ []))))))) := ⟨_, rfl⟩
  have ok : ∀ r ∈ ([] : List SRule), r.good (cellVal cs) := fun r h => nomatch h
  letI S : SymVal := ⟨cellVal cs, [], cellVal_int cs, ok⟩
  have len0 : c0.toList.length = 27 := f0.length
  have len1 : c1.toList.length = 2 := f1.length
  have len2 : c2.toList.length = 4 := f2.length
  have len3 : c3.toList.length = 16 := f3.length
  have len4 : c4.toList.length = 4 := f4.length
  have len5 : c5.toList.length = 2 := f5.length
  have len6 : c6.toList.length = 2 := f6.length
  obtain ⟨b0, sl0, l0, _, v0⟩ := fits_sym (φ := phi1) rfl f0 0 (fun j k m hm => by
    show cellVal cs (0 + j) = _
    rw [hcs, show 0 + j = j by omega]
    exact cellVal_here hm)
  rw [sh47_sl] at l0
  obtain ⟨b1, sl1, l1, _, v1⟩ := fits_sym (φ := phi1) rfl f1 27 (fun j k m hm => by
    show cellVal cs (27 + j) = _
    rw [hcs, show 27 + j = (27 + j) by omega, cellVal_skip len0]
    exact cellVal_here hm)
  rw [sh23_sl] at l1
  obtain ⟨b2, sl2, l2, _, v2⟩ := fits_sym (φ := phi1) rfl f2 29 (fun j k m hm => by
    show cellVal cs (29 + j) = _
    rw [hcs, show 29 + j = (27 + (2 + j)) by omega, cellVal_skip len0, cellVal_skip len1]
    exact cellVal_here hm)
  rw [sh30_sl] at l2
  obtain ⟨b3, sl3, l3, _, v3⟩ := fits_sym (φ := phi1) rfl f3 33 (fun j k m hm => by
    show cellVal cs (33 + j) = _
    rw [hcs, show 33 + j = (27 + (2 + (4 + j))) by omega, cellVal_skip len0, cellVal_skip len1, cellVal_skip len2]
    exact cellVal_here hm)
  rw [sh80_sl] at l3
  obtain ⟨b4, sl4, l4, _, v4⟩ := fits_sym (φ := phi1) rfl f4 49 (fun j k m hm => by
    show cellVal cs (49 + j) = _
    rw [hcs, show 49 + j = (27 + (2 + (4 + (16 + j)))) by omega, cellVal_skip len0, cellVal_skip len1, cellVal_skip len2, cellVal_skip len3]
    exact cellVal_here hm)
  rw [sh36_sl] at l4
  obtain ⟨b5, sl5, l5, _, v5⟩ := fits_sym (φ := phi1) rfl f5 53 (fun j k m hm => by
    show cellVal cs (53 + j) = _
    rw [hcs, show 53 + j = (27 + (2 + (4 + (16 + (4 + j))))) by omega, cellVal_skip len0, cellVal_skip len1, cellVal_skip len2, cellVal_skip len3, cellVal_skip len4]
    exact cellVal_here hm)
  rw [sh38_sl] at l5
  obtain ⟨b6, sl6, l6, _, v6⟩ := fits_sym (φ := phi1) rfl f6 55 (fun j k m hm => by
    show cellVal cs (55 + j) = _
    rw [hcs, show 55 + j = (27 + (2 + (4 + (16 + (4 + (2 + j)))))) by omega, cellVal_skip len0, cellVal_skip len1, cellVal_skip len2, cellVal_skip len3, cellVal_skip len4, cellVal_skip len5]
    exact cellVal_here hm)
  rw [sh38_sl] at l6
  match sl0, l0, sl1, l1, sl2, l2, sl3, l3, sl4, l4, sl5, l5, sl6, l6 with
  | [x], _, [], _, [], _, [], _, [], _, [], _, [], _ =>
    exact true_call pok (prim1_ok awake6) (runAll (cellVal cs) (cellVal_int cs) ok b0 b1 b2 b3 b4 b5 b6 x) (.cons _ _ _ _ (.agg _ _ v0) (.cons _ _ _ _ (.agg _ _ v1) (.cons _ _ _ _ (.agg _ _ v2) (.cons _ _ _ _ (.agg _ _ v3) (.cons _ _ _ _ (.agg _ _ v4) (.cons _ _ _ _ (.agg _ _ v5) (.cons _ _ _ _ (.agg _ _ v6) .nil))))))) w

set_option maxRecDepth 100000 in
theorem lifted (os : Os) (started : os.Started) (H : Type) (enc : TypeId × Value → H) :
    ReturnsInHanded {} Tryz.checked os 6 .any (Rows.worldNilSpec.pre6 enc Tryz.prog Tryz.f6 Rows.worldNilRow.domain false) (Rows.worldNilSpec.post enc Tryz.prog Tryz.f6 false true false false) := by
  refine returnsInHanded_of_change (C := Tryz.checked) Facts.own started (by kernel_rfl) Tryz.func6
    (ChangeSpec.witness6 (enc := enc) (C := Tryz.checked) false ⟨#[], #[.agg ⟨lmk sh47 (fun _ => 0) (fun _ => false) [none]⟩, .agg ⟨lmk sh23 (fun _ => 0) (fun _ => false) []⟩, .agg ⟨lmk sh30 (fun _ => 0) (fun _ => false) []⟩, .agg ⟨lmk sh80 (fun _ => 0) (fun _ => false) []⟩, .agg ⟨lmk sh36 (fun _ => 0) (fun _ => false) []⟩, .agg ⟨lmk sh38 (fun _ => 0) (fun _ => false) []⟩, .agg ⟨lmk sh38 (fun _ => 0) (fun _ => false) []⟩], []⟩ 8 (by kernel_rfl) (by kernel_rfl) (by kernel_rfl) (by kernel_rfl)) ?_
  intro W base args ds gs before hval0 hW hcnd _
  have hval : ∀ (j : Nat) t v, Tryz.f6.params[j]? = some t → args[j]? = some v → Value.okWide Tryz.prog W .any base t v := hval0
  have hW' := hW
  obtain ⟨p, q, hA0, hV, rfl, hfz, hnd⟩ := hW
  have hA : DataW.TrodAll enc Tryz.prog W 0 (fun _ => true) true Tryz.f6.params.toList args.toList ds p := hA0
  rw [Tryz.params6] at hA hval
  obtain ⟨v0, vs0, d0, ds0, p0, q0, hargs, rfl, rfl, h0, r0⟩ := trodAll_cons hA
  obtain ⟨v1, vs1, d1, ds1, p1, q1, rfl, rfl, rfl, h1, r1⟩ := trodAll_cons r0
  obtain ⟨v2, vs2, d2, ds2, p2, q2, rfl, rfl, rfl, h2, r2⟩ := trodAll_cons r1
  obtain ⟨v3, vs3, d3, ds3, p3, q3, rfl, rfl, rfl, h3, r3⟩ := trodAll_cons r2
  obtain ⟨v4, vs4, d4, ds4, p4, q4, rfl, rfl, rfl, h4, r4⟩ := trodAll_cons r3
  obtain ⟨v5, vs5, d5, ds5, p5, q5, rfl, rfl, rfl, h5, r5⟩ := trodAll_cons r4
  obtain ⟨v6, vs6, d6, ds6, p6, q6, rfl, rfl, rfl, h6, r6⟩ := trodAll_cons r5
  obtain ⟨rfl, rfl, rfl⟩ := trodAll_nil r6
  obtain rfl : args = #[v0, v1, v2, v3, v4, v5, v6] := by cases args; simp_all
  obtain ⟨rfl, rfl⟩ := trodVars_none hV
  have k0 := h0
  have k1 := h1
  have k2 := h2
  have k3 := h3
  have k4 := h4
  have k5 := h5
  have k6 := h6
  have lt0 : ∀ x ∈ p0, x.block < W.heap.size := by obtain ⟨m, hm⟩ := k0; exact DataW.trod_lt m _ _ _ hm
  have lt1 : ∀ x ∈ p1, x.block < W.heap.size := by obtain ⟨m, hm⟩ := k1; exact DataW.trod_lt m _ _ _ hm
  have lt2 : ∀ x ∈ p2, x.block < W.heap.size := by obtain ⟨m, hm⟩ := k2; exact DataW.trod_lt m _ _ _ hm
  have lt3 : ∀ x ∈ p3, x.block < W.heap.size := by obtain ⟨m, hm⟩ := k3; exact DataW.trod_lt m _ _ _ hm
  have lt4 : ∀ x ∈ p4, x.block < W.heap.size := by obtain ⟨m, hm⟩ := k4; exact DataW.trod_lt m _ _ _ hm
  have lt5 : ∀ x ∈ p5, x.block < W.heap.size := by obtain ⟨m, hm⟩ := k5; exact DataW.trod_lt m _ _ _ hm
  have lt6 : ∀ x ∈ p6, x.block < W.heap.size := by obtain ⟨m, hm⟩ := k6; exact DataW.trod_lt m _ _ _ hm
  obtain ⟨c0, rfl, f0⟩ := fits_struct ⟨_, Tryz.underlying47⟩ sh47_is sh47_len (hval 0 47 v0 rfl rfl)
  obtain ⟨c1, rfl, f1⟩ := fits_struct ⟨_, Tryz.underlying23⟩ sh23_is sh23_len (hval 1 23 v1 rfl rfl)
  obtain ⟨c2, rfl, f2⟩ := fits_struct ⟨_, Tryz.underlying30⟩ sh30_is sh30_len (hval 2 30 v2 rfl rfl)
  obtain ⟨c3, rfl, f3⟩ := fits_struct ⟨_, Tryz.underlying80⟩ sh80_is sh80_len (hval 3 80 v3 rfl rfl)
  obtain ⟨c4, rfl, f4⟩ := fits_struct ⟨_, Tryz.underlying36⟩ sh36_is sh36_len (hval 4 36 v4 rfl rfl)
  obtain ⟨c5, rfl, f5⟩ := fits_struct ⟨_, Tryz.underlying38⟩ sh38_is sh38_len (hval 5 38 v5 rfl rfl)
  obtain ⟨c6, rfl, f6⟩ := fits_struct ⟨_, Tryz.underlying38⟩ sh38_is sh38_len (hval 6 38 v6 rfl rfl)
  clear hA0 hval0
  refine (walk c0 c1 c2 c3 c4 c5 c6 W f0 f1 f2 f3 f4 f5 f6).mono fun e W' ⟨he, bel⟩ => ?_
  subst he
  exact ⟨_, rfl, _, _, _, [], _, [], hW', trodAll_mk1 (shut_bool Tryz.underlying4 _), (trodAll_cons_mk (Below.trod Facts.laidOut (by kernel_rfl) (of_decide_eq_true (by kernel_rfl)) k0 bel lt0) (trodAll_cons_mk (Below.trod Facts.laidOut (by kernel_rfl) (of_decide_eq_true (by kernel_rfl)) k1 bel lt1) (trodAll_cons_mk (Below.trod Facts.laidOut (by kernel_rfl) (of_decide_eq_true (by kernel_rfl)) k2 bel lt2) (trodAll_cons_mk (Below.trod Facts.laidOut (by kernel_rfl) (of_decide_eq_true (by kernel_rfl)) k3 bel lt3) (trodAll_cons_mk (Below.trod Facts.laidOut (by kernel_rfl) (of_decide_eq_true (by kernel_rfl)) k4 bel lt4) (trodAll_cons_mk (Below.trod Facts.laidOut (by kernel_rfl) (of_decide_eq_true (by kernel_rfl)) k5 bel lt5) (trodAll_cons_mk (Below.trod Facts.laidOut (by kernel_rfl) (of_decide_eq_true (by kernel_rfl)) k6 bel lt6) trodAll_mk0))))))), rfl, bel.frame _, fun h => by cases h⟩

theorem over : Rows.worldNilRow.holds Tryz.pinned (OpenSpec.ofChange Rows.worldNilSpec) :=
  OpenClaim.holds_of_wide 6 Tryz.f6 rfl rfl rfl rfl rfl rfl rfl ⟨rfl, rfl, rfl, rfl, rfl⟩ rfl rfl rfl rfl rfl worldNilFacts.func Tryz.func6 worldNilFacts.joined
    worldNilFacts.inst worldNilFacts.wrapper
    (fun os started H enc _ => lifted os started H enc)
end NilRow

theorem worldNilProved : Rows.WorldNilSaid := NilRow.over
#print axioms worldNilProved
end Go.Proofs.YtaiobdgjfgpefaaGreat
