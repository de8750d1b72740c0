/- Digits of a setup's number. -/
import Derived.Test.YtgddinljekkhdaaGreatZE
set_option linter.unusedSimpArgs false
set_option linter.unusedVariables false
namespace Go.Proofs.YtgddinljekkhdaaGreat.U
open Go Go.Eng Go.RowKit
set_option maxRecDepth 100000
theorem cmp_eql (k : IntKind) (a : Nat) (c : Nat) : sev (.bin .eql) [.int k (a : Int), .int k (.ofNat c)] = some (.bool (decide (a = c))) := by
  have : sev (.bin .eql) [.int k (a : Int), .int k (.ofNat c)] = some (.bool ((a : Int) == (c : Int))) := by cases k <;> rfl
  rw [this]
  congr 2
  by_cases h : a = c
  · subst h; simp
  · rw [decide_eq_false h]; simp; omega
theorem conv64i (k : IntKind) (a : Nat) (h : a < 9223372036854775808) : sev (.conv .i64) [.int k (a : Int)] = some (.int .i64 (a : Int)) := by
  show some (Value.int .i64 (IntKind.i64.wrap (a : Int))) = _
  rw [wI64 (by omega) (by omega)]
theorem wrap_u (z : Int) : ∃ y : Nat, y < 18446744073709551616 ∧ IntKind.u64.wrap z = (y : Int) := by
  have h : IntKind.u64.wrap z = z % 18446744073709551616 := by simp [IntKind.wrap, IntKind.bits, IntKind.signed]
  refine ⟨(z % 18446744073709551616).toNat, by omega, ?_⟩
  rw [h]; omega
theorem conv_u (z : Int) : ∃ y : Nat, y < 18446744073709551616 ∧ sev (.conv .u64) [.int .i64 z] = some (.int .u64 (y : Int)) := by
  obtain ⟨y, h1, h2⟩ := wrap_u z
  refine ⟨y, h1, ?_⟩
  show some (Value.int .u64 (IntKind.u64.wrap z)) = _
  rw [h2]
theorem rem_u (a c : Nat) (hc : 0 < c) : sev (.bin .rem) [.int .u64 (a : Int), .int .u64 (.ofNat c)] = some (.int .u64 ((a % c : Nat) : Int)) := by
  show pureSem (Op.intDiv .rem .u64 (a : Int) (c : Int)) = _
  unfold Op.intDiv
  rw [if_neg (by omega)]
  show some (Value.int .u64 ((a : Int).tmod (c : Int))) = _
  rw [Int.tmod_eq_emod_of_nonneg (by omega)]
  rfl
theorem quo_u (a c : Nat) (hc : 0 < c) : ∃ y : Nat, y < 18446744073709551616 ∧ sev (.bin .quo) [.int .u64 (a : Int), .int .u64 (.ofNat c)] = some (.int .u64 (y : Int)) := by
  obtain ⟨y, h1, h2⟩ := wrap_u ((a : Int).tdiv (c : Int))
  refine ⟨y, h1, ?_⟩
  show pureSem (Op.intDiv .quo .u64 (a : Int) (c : Int)) = _
  unfold Op.intDiv
  rw [if_neg (by omega)]
  show some (Value.int .u64 (IntKind.u64.wrap ((a : Int).tdiv (c : Int)))) = _
  rw [h2]
theorem mul_u (a c : Nat) : ∃ y : Nat, y < 18446744073709551616 ∧ sev (.bin .mul) [.int .u64 (a : Int), .int .u64 (.ofNat c)] = some (.int .u64 (y : Int)) := by
  obtain ⟨y, h1, h2⟩ := wrap_u ((a : Int) * (c : Int))
  refine ⟨y, h1, ?_⟩
  show some (Value.int .u64 (IntKind.u64.wrap ((a : Int) * (c : Int)))) = _
  rw [h2]
theorem add_u (a c : Nat) : ∃ y : Nat, y < 18446744073709551616 ∧ sev (.bin .add) [.int .u64 (a : Int), .int .u64 (c : Int)] = some (.int .u64 (y : Int)) := by
  obtain ⟨y, h1, h2⟩ := wrap_u ((a : Int) + (c : Int))
  refine ⟨y, h1, ?_⟩
  show some (Value.int .u64 (IntKind.u64.wrap ((a : Int) + (c : Int)))) = _
  rw [h2]
theorem add1_i (a : Nat) (h : a < 1000) : sev (.bin .add) [iv 1, .int .i64 (a : Int)] = some (.int .i64 ((a + 1 : Nat) : Int)) := by
  show some (Value.int .i64 (IntKind.i64.wrap (1 + (a : Int)))) = _
  rw [wI64 (by omega) (by omega)]
  congr 2
  omega
theorem eqi_n (a c : Nat) : sev .eqi [.int .i64 (a : Int), .int .i64 (.ofNat c)] = some (.bool (decide (a = c))) := by
  show some (Value.bool ((a : Int) == (c : Int))) = _
  congr 2
  by_cases h : a = c
  · subst h; simp
  · rw [decide_eq_false h]; simp; omega
theorem evK_tT {P : Program} {α β : Type} {cs : List (Ctr P)} {K : α → Env → Option β} {q : SOp} {xs : List Value} {a b : Tr α} {n m : Nat} {env : Env} {r : Option β} (h : sev q (xs.map (den env.s)) = some (.bool true)) (hr : evK cs K a n m env = r) : evK cs K (.t q xs a b) n m env = r := (evK_t true h).trans hr
theorem evK_tF {P : Program} {α β : Type} {cs : List (Ctr P)} {K : α → Env → Option β} {q : SOp} {xs : List Value} {a b : Tr α} {n m : Nat} {env : Env} {r : Option β} (h : sev q (xs.map (den env.s)) = some (.bool false)) (hr : evK cs K b n m env = r) : evK cs K (.t q xs a b) n m env = r := (evK_t false h).trans hr
def gv (g : Bool) : Value := bif g then nv 34359738367 else iv 0
theorem flat_eq {cs : List (Ctr Tryz.prog)} {F : CFn} {ss ls : List Value} (c : Cut) (hc : F.cuts[0]? = some c) : F.F cs ss ls = evK cs (F.K cs (manyK - 1)) c.T c.ns c.nl (envL ss ls) := by
  show F.run cs (manyK - 1 + 1) 0 _ = _
  exact CFn.step (k := manyK - 1) c hc
/-- what a setup's number says -/
structure Dg (z : Int) where
  b : Nat
  m : Nat
  r : Nat
  t : Nat
  g : Bool
  hb : b < 4
  hm : m < 6
  hr : r < 4
  ht : t < 8
  f0 : b = 0 → c6v0_c.F [.int .i64 z, (iv 100)] [] = some ([iv 0, ff, gv g, ff, iv 67108864, ff, .int .i64 ((m + 1 : Nat) : Int), .int .i64 ((r + 1 : Nat) : Int), .int .i64 ((t + 1 : Nat) : Int), (iv 100)], [])
  f1 : b = 1 → c6v1_c.F [.int .i64 z, (iv 100)] [] = some ([iv 0, ff, gv g, ff, iv 67108864, ff, .int .i64 ((m + 1 : Nat) : Int), .int .i64 ((r + 1 : Nat) : Int), .int .i64 ((t + 1 : Nat) : Int), (iv 100)], [])
  f2 : b = 2 → c6v2_c.F [.int .i64 z, (iv 100)] [] = some ([iv 0, ff, gv g, ff, iv 67108864, ff, .int .i64 ((m + 1 : Nat) : Int), .int .i64 ((r + 1 : Nat) : Int), .int .i64 ((t + 1 : Nat) : Int), (iv 100)], [])
  f3 : b = 3 → c6v3_c.F [.int .i64 z, (iv 100)] [] = some ([iv 0, ff, gv g, ff, iv 67108864, ff, .int .i64 ((m + 1 : Nat) : Int), .int .i64 ((r + 1 : Nat) : Int), .int .i64 ((t + 1 : Nat) : Int), (iv 100)], [])
  n0 : b ≠ 0 → c6v0_c.F [.int .i64 z, (iv 100)] [] = none
  n1 : b ≠ 1 → c6v1_c.F [.int .i64 z, (iv 100)] [] = none
  n2 : b ≠ 2 → c6v2_c.F [.int .i64 z, (iv 100)] [] = none
theorem dg (z : Int) : Nonempty (Dg z) := by
  obtain ⟨x0, b0, h0⟩ := conv_u z
  obtain ⟨q0, c0, e0⟩ := quo_u x0 4 (by omega)
  obtain ⟨p0, d0, f0⟩ := mul_u q0 6364136223846793005
  obtain ⟨x1, b1, h1⟩ := add_u p0 (x0 % 1000003)
  obtain ⟨q1, c1, e1⟩ := quo_u x1 8 (by omega)
  obtain ⟨p1, d1, f1⟩ := mul_u q1 6364136223846793005
  obtain ⟨x2, b2, h2⟩ := add_u p1 (x1 % 1000003)
  obtain ⟨q2, c2, e2⟩ := quo_u x2 6 (by omega)
  obtain ⟨p2, d2, f2⟩ := mul_u q2 6364136223846793005
  obtain ⟨x3, b3, h3⟩ := add_u p2 (x2 % 1000003)
  obtain ⟨q3, c3, e3⟩ := quo_u x3 4 (by omega)
  obtain ⟨p3, d3, f3⟩ := mul_u q3 6364136223846793005
  obtain ⟨x4, b4, h4⟩ := add_u p3 (x3 % 1000003)
  obtain ⟨q4, c4, e4⟩ := quo_u x4 2 (by omega)
  obtain ⟨p4, d4, f4⟩ := mul_u q4 6364136223846793005
  obtain ⟨x5, b5, h5⟩ := add_u p4 (x4 % 1000003)
  obtain ⟨g, hg⟩ : ∃ g : Bool, g = decide (x4 % 2 = 1) := ⟨_, rfl⟩
  refine ⟨⟨x0 % 4, x2 % 6, x3 % 4, x1 % 8, g, by omega, by omega, by omega, by omega, ?_, ?_, ?_, ?_, ?_, ?_, ?_⟩⟩
  · intro hb
    have hF3 : ∀ u v, c6v0_c.F u v = CFn.F (P := Tryz.prog) [] (c6_f 0 c6_z0) u v := by intro u v; kernel_rfl
    rw [hF3]
    refine Eq.trans (flat_eq _ rfl) ?_
    refine Eq.trans (evK_d _ h0) ?_
    refine Eq.trans (evK_d _ (rem_u x0 4 (by omega))) ?_
    refine Eq.trans (evK_d _ e0) ?_
    refine Eq.trans (evK_d _ f0) ?_
    refine Eq.trans (evK_d _ (rem_u x0 1000003 (by omega))) ?_
    refine Eq.trans (evK_d _ h1) ?_
    refine Eq.trans (evK_d _ (conv64i _ (x0 % 4) (by omega))) ?_
    refine Eq.trans (evK_d _ (add1_i (x0 % 4) (by omega))) ?_
    refine Eq.trans (evK_d _ (rem_u x1 8 (by omega))) ?_
    refine Eq.trans (evK_d _ e1) ?_
    refine Eq.trans (evK_d _ f1) ?_
    refine Eq.trans (evK_d _ (rem_u x1 1000003 (by omega))) ?_
    refine Eq.trans (evK_d _ h2) ?_
    refine Eq.trans (evK_d _ (conv64i _ (x1 % 8) (by omega))) ?_
    refine Eq.trans (evK_d _ (add1_i (x1 % 8) (by omega))) ?_
    refine Eq.trans (evK_d _ (rem_u x2 6 (by omega))) ?_
    refine Eq.trans (evK_d _ e2) ?_
    refine Eq.trans (evK_d _ f2) ?_
    refine Eq.trans (evK_d _ (rem_u x2 1000003 (by omega))) ?_
    refine Eq.trans (evK_d _ h3) ?_
    refine Eq.trans (evK_d _ (conv64i _ (x2 % 6) (by omega))) ?_
    refine Eq.trans (evK_d _ (add1_i (x2 % 6) (by omega))) ?_
    refine Eq.trans (evK_d _ (rem_u x3 4 (by omega))) ?_
    refine Eq.trans (evK_d _ e3) ?_
    refine Eq.trans (evK_d _ f3) ?_
    refine Eq.trans (evK_d _ (rem_u x3 1000003 (by omega))) ?_
    refine Eq.trans (evK_d _ h4) ?_
    refine Eq.trans (evK_d _ (conv64i _ (x3 % 4) (by omega))) ?_
    refine Eq.trans (evK_d _ (add1_i (x3 % 4) (by omega))) ?_
    refine Eq.trans (evK_d _ (rem_u x4 2 (by omega))) ?_
    refine Eq.trans (evK_d _ e4) ?_
    refine Eq.trans (evK_d _ f4) ?_
    refine Eq.trans (evK_d _ (rem_u x4 1000003 (by omega))) ?_
    refine Eq.trans (evK_d _ h5) ?_
    refine Eq.trans (evK_d _ (conv64i _ (x4 % 2) (by omega))) ?_
    cases g
    · refine evK_tF ((cmp_eql .i64 (x4 % 2) 1).trans (by rw [← hg])) ?_
      refine evK_tT ((eqi_n (x0 % 4 + 1) 1).trans (by rw [decide_eq_true (by omega)])) ?_
      rfl
    · refine evK_tT ((cmp_eql .i64 (x4 % 2) 1).trans (by rw [← hg])) ?_
      refine evK_tT ((eqi_n (x0 % 4 + 1) 1).trans (by rw [decide_eq_true (by omega)])) ?_
      rfl
  · intro hb
    have hF3 : ∀ u v, c6v1_c.F u v = CFn.F (P := Tryz.prog) [] (c6_f 1 c6_z1) u v := by intro u v; kernel_rfl
    rw [hF3]
    refine Eq.trans (flat_eq _ rfl) ?_
    refine Eq.trans (evK_d _ h0) ?_
    refine Eq.trans (evK_d _ (rem_u x0 4 (by omega))) ?_
    refine Eq.trans (evK_d _ e0) ?_
    refine Eq.trans (evK_d _ f0) ?_
    refine Eq.trans (evK_d _ (rem_u x0 1000003 (by omega))) ?_
    refine Eq.trans (evK_d _ h1) ?_
    refine Eq.trans (evK_d _ (conv64i _ (x0 % 4) (by omega))) ?_
    refine Eq.trans (evK_d _ (add1_i (x0 % 4) (by omega))) ?_
    refine Eq.trans (evK_d _ (rem_u x1 8 (by omega))) ?_
    refine Eq.trans (evK_d _ e1) ?_
    refine Eq.trans (evK_d _ f1) ?_
    refine Eq.trans (evK_d _ (rem_u x1 1000003 (by omega))) ?_
    refine Eq.trans (evK_d _ h2) ?_
    refine Eq.trans (evK_d _ (conv64i _ (x1 % 8) (by omega))) ?_
    refine Eq.trans (evK_d _ (add1_i (x1 % 8) (by omega))) ?_
    refine Eq.trans (evK_d _ (rem_u x2 6 (by omega))) ?_
    refine Eq.trans (evK_d _ e2) ?_
    refine Eq.trans (evK_d _ f2) ?_
    refine Eq.trans (evK_d _ (rem_u x2 1000003 (by omega))) ?_
    refine Eq.trans (evK_d _ h3) ?_
    refine Eq.trans (evK_d _ (conv64i _ (x2 % 6) (by omega))) ?_
    refine Eq.trans (evK_d _ (add1_i (x2 % 6) (by omega))) ?_
    refine Eq.trans (evK_d _ (rem_u x3 4 (by omega))) ?_
    refine Eq.trans (evK_d _ e3) ?_
    refine Eq.trans (evK_d _ f3) ?_
    refine Eq.trans (evK_d _ (rem_u x3 1000003 (by omega))) ?_
    refine Eq.trans (evK_d _ h4) ?_
    refine Eq.trans (evK_d _ (conv64i _ (x3 % 4) (by omega))) ?_
    refine Eq.trans (evK_d _ (add1_i (x3 % 4) (by omega))) ?_
    refine Eq.trans (evK_d _ (rem_u x4 2 (by omega))) ?_
    refine Eq.trans (evK_d _ e4) ?_
    refine Eq.trans (evK_d _ f4) ?_
    refine Eq.trans (evK_d _ (rem_u x4 1000003 (by omega))) ?_
    refine Eq.trans (evK_d _ h5) ?_
    refine Eq.trans (evK_d _ (conv64i _ (x4 % 2) (by omega))) ?_
    cases g
    · refine evK_tF ((cmp_eql .i64 (x4 % 2) 1).trans (by rw [← hg])) ?_
      refine evK_tF ((eqi_n (x0 % 4 + 1) 1).trans (by rw [decide_eq_false (by omega)])) ?_
      refine evK_tT ((eqi_n (x0 % 4 + 1) 2).trans (by rw [decide_eq_true (by omega)])) ?_
      rfl
    · refine evK_tT ((cmp_eql .i64 (x4 % 2) 1).trans (by rw [← hg])) ?_
      refine evK_tF ((eqi_n (x0 % 4 + 1) 1).trans (by rw [decide_eq_false (by omega)])) ?_
      refine evK_tT ((eqi_n (x0 % 4 + 1) 2).trans (by rw [decide_eq_true (by omega)])) ?_
      rfl
  · intro hb
    have hF3 : ∀ u v, c6v2_c.F u v = CFn.F (P := Tryz.prog) [] (c6_f 2 c6_z2) u v := by intro u v; kernel_rfl
    rw [hF3]
    refine Eq.trans (flat_eq _ rfl) ?_
    refine Eq.trans (evK_d _ h0) ?_
    refine Eq.trans (evK_d _ (rem_u x0 4 (by omega))) ?_
    refine Eq.trans (evK_d _ e0) ?_
    refine Eq.trans (evK_d _ f0) ?_
    refine Eq.trans (evK_d _ (rem_u x0 1000003 (by omega))) ?_
    refine Eq.trans (evK_d _ h1) ?_
    refine Eq.trans (evK_d _ (conv64i _ (x0 % 4) (by omega))) ?_
    refine Eq.trans (evK_d _ (add1_i (x0 % 4) (by omega))) ?_
    refine Eq.trans (evK_d _ (rem_u x1 8 (by omega))) ?_
    refine Eq.trans (evK_d _ e1) ?_
    refine Eq.trans (evK_d _ f1) ?_
    refine Eq.trans (evK_d _ (rem_u x1 1000003 (by omega))) ?_
    refine Eq.trans (evK_d _ h2) ?_
    refine Eq.trans (evK_d _ (conv64i _ (x1 % 8) (by omega))) ?_
    refine Eq.trans (evK_d _ (add1_i (x1 % 8) (by omega))) ?_
    refine Eq.trans (evK_d _ (rem_u x2 6 (by omega))) ?_
    refine Eq.trans (evK_d _ e2) ?_
    refine Eq.trans (evK_d _ f2) ?_
    refine Eq.trans (evK_d _ (rem_u x2 1000003 (by omega))) ?_
    refine Eq.trans (evK_d _ h3) ?_
    refine Eq.trans (evK_d _ (conv64i _ (x2 % 6) (by omega))) ?_
    refine Eq.trans (evK_d _ (add1_i (x2 % 6) (by omega))) ?_
    refine Eq.trans (evK_d _ (rem_u x3 4 (by omega))) ?_
    refine Eq.trans (evK_d _ e3) ?_
    refine Eq.trans (evK_d _ f3) ?_
    refine Eq.trans (evK_d _ (rem_u x3 1000003 (by omega))) ?_
    refine Eq.trans (evK_d _ h4) ?_
    refine Eq.trans (evK_d _ (conv64i _ (x3 % 4) (by omega))) ?_
    refine Eq.trans (evK_d _ (add1_i (x3 % 4) (by omega))) ?_
    refine Eq.trans (evK_d _ (rem_u x4 2 (by omega))) ?_
    refine Eq.trans (evK_d _ e4) ?_
    refine Eq.trans (evK_d _ f4) ?_
    refine Eq.trans (evK_d _ (rem_u x4 1000003 (by omega))) ?_
    refine Eq.trans (evK_d _ h5) ?_
    refine Eq.trans (evK_d _ (conv64i _ (x4 % 2) (by omega))) ?_
    cases g
    · refine evK_tF ((cmp_eql .i64 (x4 % 2) 1).trans (by rw [← hg])) ?_
      refine evK_tF ((eqi_n (x0 % 4 + 1) 1).trans (by rw [decide_eq_false (by omega)])) ?_
      refine evK_tF ((eqi_n (x0 % 4 + 1) 2).trans (by rw [decide_eq_false (by omega)])) ?_
      refine evK_tT ((eqi_n (x0 % 4 + 1) 3).trans (by rw [decide_eq_true (by omega)])) ?_
      rfl
    · refine evK_tT ((cmp_eql .i64 (x4 % 2) 1).trans (by rw [← hg])) ?_
      refine evK_tF ((eqi_n (x0 % 4 + 1) 1).trans (by rw [decide_eq_false (by omega)])) ?_
      refine evK_tF ((eqi_n (x0 % 4 + 1) 2).trans (by rw [decide_eq_false (by omega)])) ?_
      refine evK_tT ((eqi_n (x0 % 4 + 1) 3).trans (by rw [decide_eq_true (by omega)])) ?_
      rfl
  · intro hb
    have hF3 : ∀ u v, c6v3_c.F u v = CFn.F (P := Tryz.prog) [] (c6_f 3 c6_z3) u v := by intro u v; kernel_rfl
    rw [hF3]
    refine Eq.trans (flat_eq _ rfl) ?_
    refine Eq.trans (evK_d _ h0) ?_
    refine Eq.trans (evK_d _ (rem_u x0 4 (by omega))) ?_
    refine Eq.trans (evK_d _ e0) ?_
    refine Eq.trans (evK_d _ f0) ?_
    refine Eq.trans (evK_d _ (rem_u x0 1000003 (by omega))) ?_
    refine Eq.trans (evK_d _ h1) ?_
    refine Eq.trans (evK_d _ (conv64i _ (x0 % 4) (by omega))) ?_
    refine Eq.trans (evK_d _ (add1_i (x0 % 4) (by omega))) ?_
    refine Eq.trans (evK_d _ (rem_u x1 8 (by omega))) ?_
    refine Eq.trans (evK_d _ e1) ?_
    refine Eq.trans (evK_d _ f1) ?_
    refine Eq.trans (evK_d _ (rem_u x1 1000003 (by omega))) ?_
    refine Eq.trans (evK_d _ h2) ?_
    refine Eq.trans (evK_d _ (conv64i _ (x1 % 8) (by omega))) ?_
    refine Eq.trans (evK_d _ (add1_i (x1 % 8) (by omega))) ?_
    refine Eq.trans (evK_d _ (rem_u x2 6 (by omega))) ?_
    refine Eq.trans (evK_d _ e2) ?_
    refine Eq.trans (evK_d _ f2) ?_
    refine Eq.trans (evK_d _ (rem_u x2 1000003 (by omega))) ?_
    refine Eq.trans (evK_d _ h3) ?_
    refine Eq.trans (evK_d _ (conv64i _ (x2 % 6) (by omega))) ?_
    refine Eq.trans (evK_d _ (add1_i (x2 % 6) (by omega))) ?_
    refine Eq.trans (evK_d _ (rem_u x3 4 (by omega))) ?_
    refine Eq.trans (evK_d _ e3) ?_
    refine Eq.trans (evK_d _ f3) ?_
    refine Eq.trans (evK_d _ (rem_u x3 1000003 (by omega))) ?_
    refine Eq.trans (evK_d _ h4) ?_
    refine Eq.trans (evK_d _ (conv64i _ (x3 % 4) (by omega))) ?_
    refine Eq.trans (evK_d _ (add1_i (x3 % 4) (by omega))) ?_
    refine Eq.trans (evK_d _ (rem_u x4 2 (by omega))) ?_
    refine Eq.trans (evK_d _ e4) ?_
    refine Eq.trans (evK_d _ f4) ?_
    refine Eq.trans (evK_d _ (rem_u x4 1000003 (by omega))) ?_
    refine Eq.trans (evK_d _ h5) ?_
    refine Eq.trans (evK_d _ (conv64i _ (x4 % 2) (by omega))) ?_
    cases g
    · refine evK_tF ((cmp_eql .i64 (x4 % 2) 1).trans (by rw [← hg])) ?_
      refine evK_tF ((eqi_n (x0 % 4 + 1) 1).trans (by rw [decide_eq_false (by omega)])) ?_
      refine evK_tF ((eqi_n (x0 % 4 + 1) 2).trans (by rw [decide_eq_false (by omega)])) ?_
      refine evK_tF ((eqi_n (x0 % 4 + 1) 3).trans (by rw [decide_eq_false (by omega)])) ?_
      refine evK_tT ((eqi_n (x0 % 4 + 1) 4).trans (by rw [decide_eq_true (by omega)])) ?_
      rfl
    · refine evK_tT ((cmp_eql .i64 (x4 % 2) 1).trans (by rw [← hg])) ?_
      refine evK_tF ((eqi_n (x0 % 4 + 1) 1).trans (by rw [decide_eq_false (by omega)])) ?_
      refine evK_tF ((eqi_n (x0 % 4 + 1) 2).trans (by rw [decide_eq_false (by omega)])) ?_
      refine evK_tF ((eqi_n (x0 % 4 + 1) 3).trans (by rw [decide_eq_false (by omega)])) ?_
      refine evK_tT ((eqi_n (x0 % 4 + 1) 4).trans (by rw [decide_eq_true (by omega)])) ?_
      rfl
  · intro hb
    have hF3 : ∀ u v, c6v0_c.F u v = CFn.F (P := Tryz.prog) [] (c6_f 0 c6_z0) u v := by intro u v; kernel_rfl
    rw [hF3]
    refine Eq.trans (flat_eq _ rfl) ?_
    refine Eq.trans (evK_d _ h0) ?_
    refine Eq.trans (evK_d _ (rem_u x0 4 (by omega))) ?_
    refine Eq.trans (evK_d _ e0) ?_
    refine Eq.trans (evK_d _ f0) ?_
    refine Eq.trans (evK_d _ (rem_u x0 1000003 (by omega))) ?_
    refine Eq.trans (evK_d _ h1) ?_
    refine Eq.trans (evK_d _ (conv64i _ (x0 % 4) (by omega))) ?_
    refine Eq.trans (evK_d _ (add1_i (x0 % 4) (by omega))) ?_
    refine Eq.trans (evK_d _ (rem_u x1 8 (by omega))) ?_
    refine Eq.trans (evK_d _ e1) ?_
    refine Eq.trans (evK_d _ f1) ?_
    refine Eq.trans (evK_d _ (rem_u x1 1000003 (by omega))) ?_
    refine Eq.trans (evK_d _ h2) ?_
    refine Eq.trans (evK_d _ (conv64i _ (x1 % 8) (by omega))) ?_
    refine Eq.trans (evK_d _ (add1_i (x1 % 8) (by omega))) ?_
    refine Eq.trans (evK_d _ (rem_u x2 6 (by omega))) ?_
    refine Eq.trans (evK_d _ e2) ?_
    refine Eq.trans (evK_d _ f2) ?_
    refine Eq.trans (evK_d _ (rem_u x2 1000003 (by omega))) ?_
    refine Eq.trans (evK_d _ h3) ?_
    refine Eq.trans (evK_d _ (conv64i _ (x2 % 6) (by omega))) ?_
    refine Eq.trans (evK_d _ (add1_i (x2 % 6) (by omega))) ?_
    refine Eq.trans (evK_d _ (rem_u x3 4 (by omega))) ?_
    refine Eq.trans (evK_d _ e3) ?_
    refine Eq.trans (evK_d _ f3) ?_
    refine Eq.trans (evK_d _ (rem_u x3 1000003 (by omega))) ?_
    refine Eq.trans (evK_d _ h4) ?_
    refine Eq.trans (evK_d _ (conv64i _ (x3 % 4) (by omega))) ?_
    refine Eq.trans (evK_d _ (add1_i (x3 % 4) (by omega))) ?_
    refine Eq.trans (evK_d _ (rem_u x4 2 (by omega))) ?_
    refine Eq.trans (evK_d _ e4) ?_
    refine Eq.trans (evK_d _ f4) ?_
    refine Eq.trans (evK_d _ (rem_u x4 1000003 (by omega))) ?_
    refine Eq.trans (evK_d _ h5) ?_
    refine Eq.trans (evK_d _ (conv64i _ (x4 % 2) (by omega))) ?_
    cases g
    · refine evK_tF ((cmp_eql .i64 (x4 % 2) 1).trans (by rw [← hg])) ?_
      have h4 : x0 % 4 = 1 ∨ x0 % 4 = 2 ∨ x0 % 4 = 3 := by omega
      rcases h4 with h4 | h4 | h4
      · refine evK_tF ((eqi_n (x0 % 4 + 1) 1).trans (by rw [decide_eq_false (by omega)])) ?_
        refine evK_tT ((eqi_n (x0 % 4 + 1) 2).trans (by rw [decide_eq_true (by omega)])) ?_
        rfl
      · refine evK_tF ((eqi_n (x0 % 4 + 1) 1).trans (by rw [decide_eq_false (by omega)])) ?_
        refine evK_tF ((eqi_n (x0 % 4 + 1) 2).trans (by rw [decide_eq_false (by omega)])) ?_
        refine evK_tT ((eqi_n (x0 % 4 + 1) 3).trans (by rw [decide_eq_true (by omega)])) ?_
        rfl
      · refine evK_tF ((eqi_n (x0 % 4 + 1) 1).trans (by rw [decide_eq_false (by omega)])) ?_
        refine evK_tF ((eqi_n (x0 % 4 + 1) 2).trans (by rw [decide_eq_false (by omega)])) ?_
        refine evK_tF ((eqi_n (x0 % 4 + 1) 3).trans (by rw [decide_eq_false (by omega)])) ?_
        refine evK_tT ((eqi_n (x0 % 4 + 1) 4).trans (by rw [decide_eq_true (by omega)])) ?_
        rfl
    · refine evK_tT ((cmp_eql .i64 (x4 % 2) 1).trans (by rw [← hg])) ?_
      have h4 : x0 % 4 = 1 ∨ x0 % 4 = 2 ∨ x0 % 4 = 3 := by omega
      rcases h4 with h4 | h4 | h4
      · refine evK_tF ((eqi_n (x0 % 4 + 1) 1).trans (by rw [decide_eq_false (by omega)])) ?_
        refine evK_tT ((eqi_n (x0 % 4 + 1) 2).trans (by rw [decide_eq_true (by omega)])) ?_
        rfl
      · refine evK_tF ((eqi_n (x0 % 4 + 1) 1).trans (by rw [decide_eq_false (by omega)])) ?_
        refine evK_tF ((eqi_n (x0 % 4 + 1) 2).trans (by rw [decide_eq_false (by omega)])) ?_
        refine evK_tT ((eqi_n (x0 % 4 + 1) 3).trans (by rw [decide_eq_true (by omega)])) ?_
        rfl
      · refine evK_tF ((eqi_n (x0 % 4 + 1) 1).trans (by rw [decide_eq_false (by omega)])) ?_
        refine evK_tF ((eqi_n (x0 % 4 + 1) 2).trans (by rw [decide_eq_false (by omega)])) ?_
        refine evK_tF ((eqi_n (x0 % 4 + 1) 3).trans (by rw [decide_eq_false (by omega)])) ?_
        refine evK_tT ((eqi_n (x0 % 4 + 1) 4).trans (by rw [decide_eq_true (by omega)])) ?_
        rfl
  · intro hb
    have hF3 : ∀ u v, c6v1_c.F u v = CFn.F (P := Tryz.prog) [] (c6_f 1 c6_z1) u v := by intro u v; kernel_rfl
    rw [hF3]
    refine Eq.trans (flat_eq _ rfl) ?_
    refine Eq.trans (evK_d _ h0) ?_
    refine Eq.trans (evK_d _ (rem_u x0 4 (by omega))) ?_
    refine Eq.trans (evK_d _ e0) ?_
    refine Eq.trans (evK_d _ f0) ?_
    refine Eq.trans (evK_d _ (rem_u x0 1000003 (by omega))) ?_
    refine Eq.trans (evK_d _ h1) ?_
    refine Eq.trans (evK_d _ (conv64i _ (x0 % 4) (by omega))) ?_
    refine Eq.trans (evK_d _ (add1_i (x0 % 4) (by omega))) ?_
    refine Eq.trans (evK_d _ (rem_u x1 8 (by omega))) ?_
    refine Eq.trans (evK_d _ e1) ?_
    refine Eq.trans (evK_d _ f1) ?_
    refine Eq.trans (evK_d _ (rem_u x1 1000003 (by omega))) ?_
    refine Eq.trans (evK_d _ h2) ?_
    refine Eq.trans (evK_d _ (conv64i _ (x1 % 8) (by omega))) ?_
    refine Eq.trans (evK_d _ (add1_i (x1 % 8) (by omega))) ?_
    refine Eq.trans (evK_d _ (rem_u x2 6 (by omega))) ?_
    refine Eq.trans (evK_d _ e2) ?_
    refine Eq.trans (evK_d _ f2) ?_
    refine Eq.trans (evK_d _ (rem_u x2 1000003 (by omega))) ?_
    refine Eq.trans (evK_d _ h3) ?_
    refine Eq.trans (evK_d _ (conv64i _ (x2 % 6) (by omega))) ?_
    refine Eq.trans (evK_d _ (add1_i (x2 % 6) (by omega))) ?_
    refine Eq.trans (evK_d _ (rem_u x3 4 (by omega))) ?_
    refine Eq.trans (evK_d _ e3) ?_
    refine Eq.trans (evK_d _ f3) ?_
    refine Eq.trans (evK_d _ (rem_u x3 1000003 (by omega))) ?_
    refine Eq.trans (evK_d _ h4) ?_
    refine Eq.trans (evK_d _ (conv64i _ (x3 % 4) (by omega))) ?_
    refine Eq.trans (evK_d _ (add1_i (x3 % 4) (by omega))) ?_
    refine Eq.trans (evK_d _ (rem_u x4 2 (by omega))) ?_
    refine Eq.trans (evK_d _ e4) ?_
    refine Eq.trans (evK_d _ f4) ?_
    refine Eq.trans (evK_d _ (rem_u x4 1000003 (by omega))) ?_
    refine Eq.trans (evK_d _ h5) ?_
    refine Eq.trans (evK_d _ (conv64i _ (x4 % 2) (by omega))) ?_
    cases g
    · refine evK_tF ((cmp_eql .i64 (x4 % 2) 1).trans (by rw [← hg])) ?_
      have h4 : x0 % 4 = 0 ∨ x0 % 4 = 2 ∨ x0 % 4 = 3 := by omega
      rcases h4 with h4 | h4 | h4
      · refine evK_tT ((eqi_n (x0 % 4 + 1) 1).trans (by rw [decide_eq_true (by omega)])) ?_
        rfl
      · refine evK_tF ((eqi_n (x0 % 4 + 1) 1).trans (by rw [decide_eq_false (by omega)])) ?_
        refine evK_tF ((eqi_n (x0 % 4 + 1) 2).trans (by rw [decide_eq_false (by omega)])) ?_
        refine evK_tT ((eqi_n (x0 % 4 + 1) 3).trans (by rw [decide_eq_true (by omega)])) ?_
        rfl
      · refine evK_tF ((eqi_n (x0 % 4 + 1) 1).trans (by rw [decide_eq_false (by omega)])) ?_
        refine evK_tF ((eqi_n (x0 % 4 + 1) 2).trans (by rw [decide_eq_false (by omega)])) ?_
        refine evK_tF ((eqi_n (x0 % 4 + 1) 3).trans (by rw [decide_eq_false (by omega)])) ?_
        refine evK_tT ((eqi_n (x0 % 4 + 1) 4).trans (by rw [decide_eq_true (by omega)])) ?_
        rfl
    · refine evK_tT ((cmp_eql .i64 (x4 % 2) 1).trans (by rw [← hg])) ?_
      have h4 : x0 % 4 = 0 ∨ x0 % 4 = 2 ∨ x0 % 4 = 3 := by omega
      rcases h4 with h4 | h4 | h4
      · refine evK_tT ((eqi_n (x0 % 4 + 1) 1).trans (by rw [decide_eq_true (by omega)])) ?_
        rfl
      · refine evK_tF ((eqi_n (x0 % 4 + 1) 1).trans (by rw [decide_eq_false (by omega)])) ?_
        refine evK_tF ((eqi_n (x0 % 4 + 1) 2).trans (by rw [decide_eq_false (by omega)])) ?_
        refine evK_tT ((eqi_n (x0 % 4 + 1) 3).trans (by rw [decide_eq_true (by omega)])) ?_
        rfl
      · refine evK_tF ((eqi_n (x0 % 4 + 1) 1).trans (by rw [decide_eq_false (by omega)])) ?_
        refine evK_tF ((eqi_n (x0 % 4 + 1) 2).trans (by rw [decide_eq_false (by omega)])) ?_
        refine evK_tF ((eqi_n (x0 % 4 + 1) 3).trans (by rw [decide_eq_false (by omega)])) ?_
        refine evK_tT ((eqi_n (x0 % 4 + 1) 4).trans (by rw [decide_eq_true (by omega)])) ?_
        rfl
  · intro hb
    have hF3 : ∀ u v, c6v2_c.F u v = CFn.F (P := Tryz.prog) [] (c6_f 2 c6_z2) u v := by intro u v; kernel_rfl
    rw [hF3]
    refine Eq.trans (flat_eq _ rfl) ?_
    refine Eq.trans (evK_d _ h0) ?_
    refine Eq.trans (evK_d _ (rem_u x0 4 (by omega))) ?_
    refine Eq.trans (evK_d _ e0) ?_
    refine Eq.trans (evK_d _ f0) ?_
    refine Eq.trans (evK_d _ (rem_u x0 1000003 (by omega))) ?_
    refine Eq.trans (evK_d _ h1) ?_
    refine Eq.trans (evK_d _ (conv64i _ (x0 % 4) (by omega))) ?_
    refine Eq.trans (evK_d _ (add1_i (x0 % 4) (by omega))) ?_
    refine Eq.trans (evK_d _ (rem_u x1 8 (by omega))) ?_
    refine Eq.trans (evK_d _ e1) ?_
    refine Eq.trans (evK_d _ f1) ?_
    refine Eq.trans (evK_d _ (rem_u x1 1000003 (by omega))) ?_
    refine Eq.trans (evK_d _ h2) ?_
    refine Eq.trans (evK_d _ (conv64i _ (x1 % 8) (by omega))) ?_
    refine Eq.trans (evK_d _ (add1_i (x1 % 8) (by omega))) ?_
    refine Eq.trans (evK_d _ (rem_u x2 6 (by omega))) ?_
    refine Eq.trans (evK_d _ e2) ?_
    refine Eq.trans (evK_d _ f2) ?_
    refine Eq.trans (evK_d _ (rem_u x2 1000003 (by omega))) ?_
    refine Eq.trans (evK_d _ h3) ?_
    refine Eq.trans (evK_d _ (conv64i _ (x2 % 6) (by omega))) ?_
    refine Eq.trans (evK_d _ (add1_i (x2 % 6) (by omega))) ?_
    refine Eq.trans (evK_d _ (rem_u x3 4 (by omega))) ?_
    refine Eq.trans (evK_d _ e3) ?_
    refine Eq.trans (evK_d _ f3) ?_
    refine Eq.trans (evK_d _ (rem_u x3 1000003 (by omega))) ?_
    refine Eq.trans (evK_d _ h4) ?_
    refine Eq.trans (evK_d _ (conv64i _ (x3 % 4) (by omega))) ?_
    refine Eq.trans (evK_d _ (add1_i (x3 % 4) (by omega))) ?_
    refine Eq.trans (evK_d _ (rem_u x4 2 (by omega))) ?_
    refine Eq.trans (evK_d _ e4) ?_
    refine Eq.trans (evK_d _ f4) ?_
    refine Eq.trans (evK_d _ (rem_u x4 1000003 (by omega))) ?_
    refine Eq.trans (evK_d _ h5) ?_
    refine Eq.trans (evK_d _ (conv64i _ (x4 % 2) (by omega))) ?_
    cases g
    · refine evK_tF ((cmp_eql .i64 (x4 % 2) 1).trans (by rw [← hg])) ?_
      have h4 : x0 % 4 = 0 ∨ x0 % 4 = 1 ∨ x0 % 4 = 3 := by omega
      rcases h4 with h4 | h4 | h4
      · refine evK_tT ((eqi_n (x0 % 4 + 1) 1).trans (by rw [decide_eq_true (by omega)])) ?_
        rfl
      · refine evK_tF ((eqi_n (x0 % 4 + 1) 1).trans (by rw [decide_eq_false (by omega)])) ?_
        refine evK_tT ((eqi_n (x0 % 4 + 1) 2).trans (by rw [decide_eq_true (by omega)])) ?_
        rfl
      · refine evK_tF ((eqi_n (x0 % 4 + 1) 1).trans (by rw [decide_eq_false (by omega)])) ?_
        refine evK_tF ((eqi_n (x0 % 4 + 1) 2).trans (by rw [decide_eq_false (by omega)])) ?_
        refine evK_tF ((eqi_n (x0 % 4 + 1) 3).trans (by rw [decide_eq_false (by omega)])) ?_
        refine evK_tT ((eqi_n (x0 % 4 + 1) 4).trans (by rw [decide_eq_true (by omega)])) ?_
        rfl
    · refine evK_tT ((cmp_eql .i64 (x4 % 2) 1).trans (by rw [← hg])) ?_
      have h4 : x0 % 4 = 0 ∨ x0 % 4 = 1 ∨ x0 % 4 = 3 := by omega
      rcases h4 with h4 | h4 | h4
      · refine evK_tT ((eqi_n (x0 % 4 + 1) 1).trans (by rw [decide_eq_true (by omega)])) ?_
        rfl
      · refine evK_tF ((eqi_n (x0 % 4 + 1) 1).trans (by rw [decide_eq_false (by omega)])) ?_
        refine evK_tT ((eqi_n (x0 % 4 + 1) 2).trans (by rw [decide_eq_true (by omega)])) ?_
        rfl
      · refine evK_tF ((eqi_n (x0 % 4 + 1) 1).trans (by rw [decide_eq_false (by omega)])) ?_
        refine evK_tF ((eqi_n (x0 % 4 + 1) 2).trans (by rw [decide_eq_false (by omega)])) ?_
        refine evK_tF ((eqi_n (x0 % 4 + 1) 3).trans (by rw [decide_eq_false (by omega)])) ?_
        refine evK_tT ((eqi_n (x0 % 4 + 1) 4).trans (by rw [decide_eq_true (by omega)])) ?_
        rfl
end Go.Proofs.YtgddinljekkhdaaGreat.U
