/- RulesRefuse: for every call, error and kind the law about refusals returns true, and what was handed in reads as it did. No condition beyond the given statement. -/
import Derived.Test.YtaiobdgjfgpefaaGreatFRefuse
import Derived.Test.YtaiobdgjfgpefaaGreatAwake
import Derived.WalkKit
import Derived.ProofKit
import Derived.OpenShut
import Derived.ShutString
import Derived.ChangeOld
import Derived.Below
namespace Go.Proofs.YtaiobdgjfgpefaaGreat
open Go Go.Eng Go.ChangeShapes Go.WideShapes Go.ChangeAt Go.RowKit

namespace RefuseRow
def callSh : List Sh := [.int .i64, .int .i64, .int .i64, .int .i64, .int .i64, .int .i64, .int .i64, .int .i64, .int .i64, .slice, .int .i64, .bool, .int .i64, .bool, .int .i64, .bool, .int .i64, .bool, .int .i64, .bool, .int .i64, .bool, .int .i64, .bool, .int .i64, .bool, .int .i64, .bool, .int .i64, .bool, .int .i64, .bool, .int .i64, .bool, .int .i64, .int .i64, .int .i64, .int .i64, .int .i64, .int .i64, .int .i64, .int .i64, .int .i64]
theorem callSh_is : shs Tryz.prog 40 = some callSh := by kernel_rfl
theorem callSh_len : Tryz.prog.cellsOf 40 = callSh.length := by kernel_rfl
theorem callSh_sl : slices callSh = 1 := by kernel_rfl

def tab (a b : Bool) : List SRule :=
  [.bin .eql (sv 0) (sv 0) (.bool true), .bin .eql (sv 1) (sv 1) (.bool true), .bin .eql (sv 43) (sv 43) (.bool true), .bin .geq (sv 44) (.int .i64 1) (.bool a), .bin .leq (sv 44) (.int .i64 6) (.bool b)]

noncomputable def run (a b : Bool) (val : Nat → Value) (hi : ∀ n, ∃ k i, val n = .int k i) (ok : ∀ r ∈ tab a b, r.good val) (bs : Nat → Bool) (x : Option (Nat × Nat)) : Bool :=
  isTrue (@callFF ⟨val, tab a b, hi, ok⟩ Tryz.prog ⟨316, 318⟩ (prim1 8 primTrue) 100000 200 3 [.agg ⟨lmkP callSh 0 bs [x]⟩, sv 43, sv 44] m1)

theorem runTTNone (val : Nat → Value) (hi : ∀ n, ∃ k i, val n = .int k i) (ok : ∀ r ∈ tab true true, r.good val) (bs : Nat → Bool) : run true true val hi ok bs none = true := by kernel_rfl
theorem runTTBig (val : Nat → Value) (hi : ∀ n, ∃ k i, val n = .int k i) (ok : ∀ r ∈ tab true true, r.good val) (bs : Nat → Bool) (k cap : Nat) : run true true val hi ok bs (some (k + 13, cap)) = true := by kernel_rfl
theorem runTT0 (val : Nat → Value) (hi : ∀ n, ∃ k i, val n = .int k i) (ok : ∀ r ∈ tab true true, r.good val) (bs : Nat → Bool) (cap : Nat) : run true true val hi ok bs (some (0, cap)) = true := by kernel_rfl
theorem runTT1 (val : Nat → Value) (hi : ∀ n, ∃ k i, val n = .int k i) (ok : ∀ r ∈ tab true true, r.good val) (bs : Nat → Bool) (cap : Nat) : run true true val hi ok bs (some (1, cap)) = true := by kernel_rfl
theorem runTT2 (val : Nat → Value) (hi : ∀ n, ∃ k i, val n = .int k i) (ok : ∀ r ∈ tab true true, r.good val) (bs : Nat → Bool) (cap : Nat) : run true true val hi ok bs (some (2, cap)) = true := by kernel_rfl
theorem runTT3 (val : Nat → Value) (hi : ∀ n, ∃ k i, val n = .int k i) (ok : ∀ r ∈ tab true true, r.good val) (bs : Nat → Bool) (cap : Nat) : run true true val hi ok bs (some (3, cap)) = true := by kernel_rfl
theorem runTT4 (val : Nat → Value) (hi : ∀ n, ∃ k i, val n = .int k i) (ok : ∀ r ∈ tab true true, r.good val) (bs : Nat → Bool) (cap : Nat) : run true true val hi ok bs (some (4, cap)) = true := by kernel_rfl
theorem runTT5 (val : Nat → Value) (hi : ∀ n, ∃ k i, val n = .int k i) (ok : ∀ r ∈ tab true true, r.good val) (bs : Nat → Bool) (cap : Nat) : run true true val hi ok bs (some (5, cap)) = true := by kernel_rfl
theorem runTT6 (val : Nat → Value) (hi : ∀ n, ∃ k i, val n = .int k i) (ok : ∀ r ∈ tab true true, r.good val) (bs : Nat → Bool) (cap : Nat) : run true true val hi ok bs (some (6, cap)) = true := by kernel_rfl
theorem runTT7 (val : Nat → Value) (hi : ∀ n, ∃ k i, val n = .int k i) (ok : ∀ r ∈ tab true true, r.good val) (bs : Nat → Bool) (cap : Nat) : run true true val hi ok bs (some (7, cap)) = true := by kernel_rfl
theorem runTT8 (val : Nat → Value) (hi : ∀ n, ∃ k i, val n = .int k i) (ok : ∀ r ∈ tab true true, r.good val) (bs : Nat → Bool) (cap : Nat) : run true true val hi ok bs (some (8, cap)) = true := by kernel_rfl
theorem runTT9 (val : Nat → Value) (hi : ∀ n, ∃ k i, val n = .int k i) (ok : ∀ r ∈ tab true true, r.good val) (bs : Nat → Bool) (cap : Nat) : run true true val hi ok bs (some (9, cap)) = true := by kernel_rfl
theorem runTT10 (val : Nat → Value) (hi : ∀ n, ∃ k i, val n = .int k i) (ok : ∀ r ∈ tab true true, r.good val) (bs : Nat → Bool) (cap : Nat) : run true true val hi ok bs (some (10, cap)) = true := by kernel_rfl
theorem runTT11 (val : Nat → Value) (hi : ∀ n, ∃ k i, val n = .int k i) (ok : ∀ r ∈ tab true true, r.good val) (bs : Nat → Bool) (cap : Nat) : run true true val hi ok bs (some (11, cap)) = true := by kernel_rfl
theorem runTT12 (val : Nat → Value) (hi : ∀ n, ∃ k i, val n = .int k i) (ok : ∀ r ∈ tab true true, r.good val) (bs : Nat → Bool) (cap : Nat) : run true true val hi ok bs (some (12, cap)) = true := by kernel_rfl
theorem runTT (val : Nat → Value) (hi : ∀ n, ∃ k i, val n = .int k i) (ok : ∀ r ∈ tab true true, r.good val) (bs : Nat → Bool) (x : Option (Nat × Nat)) : run true true val hi ok bs x = true := by
  match x with
  | none => exact runTTNone val hi ok bs
  | some (0, cap) => exact runTT0 val hi ok bs cap
  | some (1, cap) => exact runTT1 val hi ok bs cap
  | some (2, cap) => exact runTT2 val hi ok bs cap
  | some (3, cap) => exact runTT3 val hi ok bs cap
  | some (4, cap) => exact runTT4 val hi ok bs cap
  | some (5, cap) => exact runTT5 val hi ok bs cap
  | some (6, cap) => exact runTT6 val hi ok bs cap
  | some (7, cap) => exact runTT7 val hi ok bs cap
  | some (8, cap) => exact runTT8 val hi ok bs cap
  | some (9, cap) => exact runTT9 val hi ok bs cap
  | some (10, cap) => exact runTT10 val hi ok bs cap
  | some (11, cap) => exact runTT11 val hi ok bs cap
  | some (12, cap) => exact runTT12 val hi ok bs cap
  | some (k + 13, cap) => exact runTTBig val hi ok bs k cap

theorem runFTNone (val : Nat → Value) (hi : ∀ n, ∃ k i, val n = .int k i) (ok : ∀ r ∈ tab false true, r.good val) (bs : Nat → Bool) : run false true val hi ok bs none = true := by kernel_rfl
theorem runFTBig (val : Nat → Value) (hi : ∀ n, ∃ k i, val n = .int k i) (ok : ∀ r ∈ tab false true, r.good val) (bs : Nat → Bool) (k cap : Nat) : run false true val hi ok bs (some (k + 13, cap)) = true := by kernel_rfl
theorem runFT0 (val : Nat → Value) (hi : ∀ n, ∃ k i, val n = .int k i) (ok : ∀ r ∈ tab false true, r.good val) (bs : Nat → Bool) (cap : Nat) : run false true val hi ok bs (some (0, cap)) = true := by kernel_rfl
theorem runFT1 (val : Nat → Value) (hi : ∀ n, ∃ k i, val n = .int k i) (ok : ∀ r ∈ tab false true, r.good val) (bs : Nat → Bool) (cap : Nat) : run false true val hi ok bs (some (1, cap)) = true := by kernel_rfl
theorem runFT2 (val : Nat → Value) (hi : ∀ n, ∃ k i, val n = .int k i) (ok : ∀ r ∈ tab false true, r.good val) (bs : Nat → Bool) (cap : Nat) : run false true val hi ok bs (some (2, cap)) = true := by kernel_rfl
theorem runFT3 (val : Nat → Value) (hi : ∀ n, ∃ k i, val n = .int k i) (ok : ∀ r ∈ tab false true, r.good val) (bs : Nat → Bool) (cap : Nat) : run false true val hi ok bs (some (3, cap)) = true := by kernel_rfl
theorem runFT4 (val : Nat → Value) (hi : ∀ n, ∃ k i, val n = .int k i) (ok : ∀ r ∈ tab false true, r.good val) (bs : Nat → Bool) (cap : Nat) : run false true val hi ok bs (some (4, cap)) = true := by kernel_rfl
theorem runFT5 (val : Nat → Value) (hi : ∀ n, ∃ k i, val n = .int k i) (ok : ∀ r ∈ tab false true, r.good val) (bs : Nat → Bool) (cap : Nat) : run false true val hi ok bs (some (5, cap)) = true := by kernel_rfl
theorem runFT6 (val : Nat → Value) (hi : ∀ n, ∃ k i, val n = .int k i) (ok : ∀ r ∈ tab false true, r.good val) (bs : Nat → Bool) (cap : Nat) : run false true val hi ok bs (some (6, cap)) = true := by kernel_rfl
theorem runFT7 (val : Nat → Value) (hi : ∀ n, ∃ k i, val n = .int k i) (ok : ∀ r ∈ tab false true, r.good val) (bs : Nat → Bool) (cap : Nat) : run false true val hi ok bs (some (7, cap)) = true := by kernel_rfl
theorem runFT8 (val : Nat → Value) (hi : ∀ n, ∃ k i, val n = .int k i) (ok : ∀ r ∈ tab false true, r.good val) (bs : Nat → Bool) (cap : Nat) : run false true val hi ok bs (some (8, cap)) = true := by kernel_rfl
theorem runFT9 (val : Nat → Value) (hi : ∀ n, ∃ k i, val n = .int k i) (ok : ∀ r ∈ tab false true, r.good val) (bs : Nat → Bool) (cap : Nat) : run false true val hi ok bs (some (9, cap)) = true := by kernel_rfl
theorem runFT10 (val : Nat → Value) (hi : ∀ n, ∃ k i, val n = .int k i) (ok : ∀ r ∈ tab false true, r.good val) (bs : Nat → Bool) (cap : Nat) : run false true val hi ok bs (some (10, cap)) = true := by kernel_rfl
theorem runFT11 (val : Nat → Value) (hi : ∀ n, ∃ k i, val n = .int k i) (ok : ∀ r ∈ tab false true, r.good val) (bs : Nat → Bool) (cap : Nat) : run false true val hi ok bs (some (11, cap)) = true := by kernel_rfl
theorem runFT12 (val : Nat → Value) (hi : ∀ n, ∃ k i, val n = .int k i) (ok : ∀ r ∈ tab false true, r.good val) (bs : Nat → Bool) (cap : Nat) : run false true val hi ok bs (some (12, cap)) = true := by kernel_rfl
theorem runFT (val : Nat → Value) (hi : ∀ n, ∃ k i, val n = .int k i) (ok : ∀ r ∈ tab false true, r.good val) (bs : Nat → Bool) (x : Option (Nat × Nat)) : run false true val hi ok bs x = true := by
  match x with
  | none => exact runFTNone val hi ok bs
  | some (0, cap) => exact runFT0 val hi ok bs cap
  | some (1, cap) => exact runFT1 val hi ok bs cap
  | some (2, cap) => exact runFT2 val hi ok bs cap
  | some (3, cap) => exact runFT3 val hi ok bs cap
  | some (4, cap) => exact runFT4 val hi ok bs cap
  | some (5, cap) => exact runFT5 val hi ok bs cap
  | some (6, cap) => exact runFT6 val hi ok bs cap
  | some (7, cap) => exact runFT7 val hi ok bs cap
  | some (8, cap) => exact runFT8 val hi ok bs cap
  | some (9, cap) => exact runFT9 val hi ok bs cap
  | some (10, cap) => exact runFT10 val hi ok bs cap
  | some (11, cap) => exact runFT11 val hi ok bs cap
  | some (12, cap) => exact runFT12 val hi ok bs cap
  | some (k + 13, cap) => exact runFTBig val hi ok bs k cap

theorem runTFNone (val : Nat → Value) (hi : ∀ n, ∃ k i, val n = .int k i) (ok : ∀ r ∈ tab true false, r.good val) (bs : Nat → Bool) : run true false val hi ok bs none = true := by kernel_rfl
theorem runTFBig (val : Nat → Value) (hi : ∀ n, ∃ k i, val n = .int k i) (ok : ∀ r ∈ tab true false, r.good val) (bs : Nat → Bool) (k cap : Nat) : run true false val hi ok bs (some (k + 13, cap)) = true := by kernel_rfl
theorem runTF0 (val : Nat → Value) (hi : ∀ n, ∃ k i, val n = .int k i) (ok : ∀ r ∈ tab true false, r.good val) (bs : Nat → Bool) (cap : Nat) : run true false val hi ok bs (some (0, cap)) = true := by kernel_rfl
theorem runTF1 (val : Nat → Value) (hi : ∀ n, ∃ k i, val n = .int k i) (ok : ∀ r ∈ tab true false, r.good val) (bs : Nat → Bool) (cap : Nat) : run true false val hi ok bs (some (1, cap)) = true := by kernel_rfl
theorem runTF2 (val : Nat → Value) (hi : ∀ n, ∃ k i, val n = .int k i) (ok : ∀ r ∈ tab true false, r.good val) (bs : Nat → Bool) (cap : Nat) : run true false val hi ok bs (some (2, cap)) = true := by kernel_rfl
theorem runTF3 (val : Nat → Value) (hi : ∀ n, ∃ k i, val n = .int k i) (ok : ∀ r ∈ tab true false, r.good val) (bs : Nat → Bool) (cap : Nat) : run true false val hi ok bs (some (3, cap)) = true := by kernel_rfl
theorem runTF4 (val : Nat → Value) (hi : ∀ n, ∃ k i, val n = .int k i) (ok : ∀ r ∈ tab true false, r.good val) (bs : Nat → Bool) (cap : Nat) : run true false val hi ok bs (some (4, cap)) = true := by kernel_rfl
theorem runTF5 (val : Nat → Value) (hi : ∀ n, ∃ k i, val n = .int k i) (ok : ∀ r ∈ tab true false, r.good val) (bs : Nat → Bool) (cap : Nat) : run true false val hi ok bs (some (5, cap)) = true := by kernel_rfl
theorem runTF6 (val : Nat → Value) (hi : ∀ n, ∃ k i, val n = .int k i) (ok : ∀ r ∈ tab true false, r.good val) (bs : Nat → Bool) (cap : Nat) : run true false val hi ok bs (some (6, cap)) = true := by kernel_rfl
theorem runTF7 (val : Nat → Value) (hi : ∀ n, ∃ k i, val n = .int k i) (ok : ∀ r ∈ tab true false, r.good val) (bs : Nat → Bool) (cap : Nat) : run true false val hi ok bs (some (7, cap)) = true := by kernel_rfl
theorem runTF8 (val : Nat → Value) (hi : ∀ n, ∃ k i, val n = .int k i) (ok : ∀ r ∈ tab true false, r.good val) (bs : Nat → Bool) (cap : Nat) : run true false val hi ok bs (some (8, cap)) = true := by kernel_rfl
theorem runTF9 (val : Nat → Value) (hi : ∀ n, ∃ k i, val n = .int k i) (ok : ∀ r ∈ tab true false, r.good val) (bs : Nat → Bool) (cap : Nat) : run true false val hi ok bs (some (9, cap)) = true := by kernel_rfl
theorem runTF10 (val : Nat → Value) (hi : ∀ n, ∃ k i, val n = .int k i) (ok : ∀ r ∈ tab true false, r.good val) (bs : Nat → Bool) (cap : Nat) : run true false val hi ok bs (some (10, cap)) = true := by kernel_rfl
theorem runTF11 (val : Nat → Value) (hi : ∀ n, ∃ k i, val n = .int k i) (ok : ∀ r ∈ tab true false, r.good val) (bs : Nat → Bool) (cap : Nat) : run true false val hi ok bs (some (11, cap)) = true := by kernel_rfl
theorem runTF12 (val : Nat → Value) (hi : ∀ n, ∃ k i, val n = .int k i) (ok : ∀ r ∈ tab true false, r.good val) (bs : Nat → Bool) (cap : Nat) : run true false val hi ok bs (some (12, cap)) = true := by kernel_rfl
theorem runTF (val : Nat → Value) (hi : ∀ n, ∃ k i, val n = .int k i) (ok : ∀ r ∈ tab true false, r.good val) (bs : Nat → Bool) (x : Option (Nat × Nat)) : run true false val hi ok bs x = true := by
  match x with
  | none => exact runTFNone val hi ok bs
  | some (0, cap) => exact runTF0 val hi ok bs cap
  | some (1, cap) => exact runTF1 val hi ok bs cap
  | some (2, cap) => exact runTF2 val hi ok bs cap
  | some (3, cap) => exact runTF3 val hi ok bs cap
  | some (4, cap) => exact runTF4 val hi ok bs cap
  | some (5, cap) => exact runTF5 val hi ok bs cap
  | some (6, cap) => exact runTF6 val hi ok bs cap
  | some (7, cap) => exact runTF7 val hi ok bs cap
  | some (8, cap) => exact runTF8 val hi ok bs cap
  | some (9, cap) => exact runTF9 val hi ok bs cap
  | some (10, cap) => exact runTF10 val hi ok bs cap
  | some (11, cap) => exact runTF11 val hi ok bs cap
  | some (12, cap) => exact runTF12 val hi ok bs cap
  | some (k + 13, cap) => exact runTFBig val hi ok bs k cap

theorem runAll (a b : Bool) (h : (a || b) = true) (val : Nat → Value) (hi : ∀ n, ∃ k i, val n = .int k i) (ok : ∀ r ∈ tab a b, r.good val) (bs : Nat → Bool) (x : Option (Nat × Nat)) : run a b val hi ok bs x = true := by
  cases a <;> cases b
  · cases h
  · exact runFT val hi ok bs x
  · exact runTF val hi ok bs x
  · exact runTT val hi ok bs x

theorem walk (c : Array Value) (e n : Int) (w : World) (hc : FitsL callSh c.toList) :
    Calls Tryz.prog 3 #[.agg c, .int .i64 e, .int .i64 n] w fun e w' => e = .returned (.bool true) ∧ Below w.heap.size w w' := by
  have hlen : c.toList.length = 43 := hc.length
  obtain ⟨cs, hcs⟩ : ∃ cs, cs = c.toList ++ [.int .i64 e, .int .i64 n] := ⟨_, rfl⟩
  have v43 : cellVal cs 43 = .int .i64 e := cellVal_at (by rw [hcs, List.getElem?_append_right (by omega), hlen]; rfl)
  have v44 : cellVal cs 44 = .int .i64 n := cellVal_at (by rw [hcs, List.getElem?_append_right (by omega), hlen]; rfl)
  have ok : ∀ r ∈ tab (decide (n ≥ 1)) (decide (n ≤ 6)), r.good (cellVal cs) := by
    intro r hr
    simp only [tab, List.mem_cons, List.not_mem_nil, or_false] at hr
    rcases hr with rfl | rfl | rfl | rfl | rfl
    · exact good_self (cellVal_int cs) 0
    · exact good_self (cellVal_int cs) 1
    · exact good_self (cellVal_int cs) 43
    · exact good_geq v44
    · exact good_leq v44
  letI S : SymVal := ⟨cellVal cs, tab (decide (n ≥ 1)) (decide (n ≤ 6)), cellVal_int cs, ok⟩
  obtain ⟨bs, sl, l1, _, v1⟩ := fits_sym (φ := phi1) rfl hc 0 (fun i k m hm => by
    have hlt : i < c.toList.length := by
      rcases Nat.lt_or_ge i c.toList.length with h | h
      · exact h
      · rw [List.getElem?_eq_none h] at hm; cases hm
    show cellVal cs (0 + i) = _
    rw [Nat.zero_add]
    exact cellVal_at (by rw [hcs, List.getElem?_append_left hlt]; exact hm))
  rw [callSh_sl] at l1
  match sl, l1 with
  | [x], _ =>
    exact true_call pok (prim1_ok awake) (runAll _ _ (by
      simp only [Bool.or_eq_true, decide_eq_true_eq]; omega) (cellVal cs) (cellVal_int cs) ok bs x) (.cons _ _ _ _ (.agg _ _ v1) (.cons _ _ _ _ (.sym _ _ _ _ v43.symm) (.cons _ _ _ _ (.sym _ _ _ _ v44.symm) .nil))) w

set_option maxRecDepth 100000 in
theorem lifted (os : Os) (started : os.Started) (H : Type) (enc : TypeId × Value → H) :
    ReturnsInHanded {} Tryz.checked os 3 .any (Rows.rulesRefuseSpec.pre6 enc Tryz.prog Tryz.f3 Rows.rulesRefuseRow.domain false) (Rows.rulesRefuseSpec.post enc Tryz.prog Tryz.f3 false true false false) := by
  refine returnsInHanded_of_change (C := Tryz.checked) Facts.own started (by kernel_rfl) Tryz.func3
    (ChangeSpec.witness6 (enc := enc) (C := Tryz.checked) false ⟨#[], #[.agg ⟨lmk callSh (fun _ => 0) (fun _ => false) [none]⟩, .int .i64 0, .int .i64 0], []⟩ 8 (by kernel_rfl) (by kernel_rfl) (by kernel_rfl) (by kernel_rfl)) ?_
  intro W base args ds gs before hval0 hW hcnd _
  have hval : ∀ (j : Nat) t v, Tryz.f3.params[j]? = some t → args[j]? = some v → Value.okWide Tryz.prog W .any base t v := hval0
  have hW' := hW
  obtain ⟨p, q, hA0, hV, rfl, hfz, hnd⟩ := hW
  have hA : DataW.TrodAll enc Tryz.prog W 0 (fun _ => true) true Tryz.f3.params.toList args.toList ds p := hA0
  rw [Tryz.params3] at hA hval
  obtain ⟨v0, vs0, d0, ds0, p0, q0, hargs, rfl, rfl, h0, r0⟩ := trodAll_cons hA
  obtain ⟨v1, vs1, d1, ds1, p1, q1, rfl, rfl, rfl, h1, r1⟩ := trodAll_cons r0
  obtain ⟨v2, vs2, d2, ds2, p2, q2, rfl, rfl, rfl, h2, r2⟩ := trodAll_cons r1
  obtain ⟨rfl, rfl, rfl⟩ := trodAll_nil r2
  obtain rfl : args = #[v0, v1, v2] := by cases args; simp_all
  obtain ⟨rfl, rfl⟩ := trodVars_none hV
  have k0 := h0
  have k1 := h1
  have k2 := h2
  have lt0 : ∀ x ∈ p0, x.block < W.heap.size := by obtain ⟨m, hm⟩ := k0; exact DataW.trod_lt m _ _ _ hm
  have lt1 : ∀ x ∈ p1, x.block < W.heap.size := by obtain ⟨m, hm⟩ := k1; exact DataW.trod_lt m _ _ _ hm
  have lt2 : ∀ x ∈ p2, x.block < W.heap.size := by obtain ⟨m, hm⟩ := k2; exact DataW.trod_lt m _ _ _ hm
  obtain ⟨c, rfl, fc⟩ := fits_struct ⟨_, Tryz.underlying40⟩ callSh_is callSh_len (hval 0 40 v0 rfl rfl)
  obtain ⟨a1, rfl⟩ := okWide_int Tryz.underlying41 (hval 1 41 v1 rfl rfl)
  obtain ⟨a2, rfl⟩ := okWide_int Tryz.underlying3 (hval 2 3 v2 rfl rfl)
  clear hA0 hval0
  refine (walk c a1 a2 W fc).mono fun e W' ⟨he, bel⟩ => ?_
  subst he
  exact ⟨_, rfl, _, _, _, [], _, [], hW', trodAll_mk1 (shut_bool Tryz.underlying4 _), (trodAll_cons_mk (Below.trod Facts.laidOut (by kernel_rfl) (of_decide_eq_true (by kernel_rfl)) k0 bel lt0) (trodAll_cons_mk (Below.trod Facts.laidOut (by kernel_rfl) (of_decide_eq_true (by kernel_rfl)) k1 bel lt1) (trodAll_cons_mk (Below.trod Facts.laidOut (by kernel_rfl) (of_decide_eq_true (by kernel_rfl)) k2 bel lt2) trodAll_mk0))), rfl, bel.frame _, fun h => by cases h⟩

theorem over : Rows.rulesRefuseRow.holds Tryz.pinned (OpenSpec.ofChange Rows.rulesRefuseSpec) :=
  OpenClaim.holds_of_wide 3 Tryz.f3 rfl rfl rfl rfl rfl rfl rfl ⟨rfl, rfl, rfl, rfl, rfl⟩ rfl rfl rfl rfl rfl rulesRefuseFacts.func Tryz.func3 rulesRefuseFacts.joined
    rulesRefuseFacts.inst rulesRefuseFacts.wrapper
    (fun os started H enc _ => lifted os started H enc)
end RefuseRow

theorem rulesRefuseProved : Rows.RulesRefuseSaid := RefuseRow.over
#print axioms rulesRefuseProved
end Go.Proofs.YtaiobdgjfgpefaaGreat
