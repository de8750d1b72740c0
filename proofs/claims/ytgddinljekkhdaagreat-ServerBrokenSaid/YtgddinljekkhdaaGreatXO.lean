/- ServerBroken: its call. -/
import Derived.Test.YtgddinljekkhdaaGreatXL0
import Derived.Test.YtgddinljekkhdaaGreatXL1
import Derived.Test.YtgddinljekkhdaaGreatXL2
import Derived.Test.YtgddinljekkhdaaGreatXL3
import Derived.Test.YtgddinljekkhdaaGreatXN
import Derived.Test.YtgddinljekkhdaaGreatEngT5
set_option linter.unusedSimpArgs false
set_option linter.unusedVariables false
namespace Go.Proofs.YtgddinljekkhdaaGreat.U
open Go Go.Eng Go.RowKit
set_option maxRecDepth 100000
theorem law_call {W : World} (z x : Int) (cl : Bool) (_ : (Lit.int .i64 z).wf = true) (hx : (Lit.int .u32 x).wf = true) : Calls Tryz.prog 4 ⟨[.int .i64 z, .int .u32 x, .bool cl]⟩ W fun e w' => e = .returned (.bool true) ∧ Below W.heap.size W w' := by
  have fin : ∀ (c : Ctr Tryz.prog), c.g = 4 → c.pan = false → c.pre.mem = [] → c.pre.vs = [sv 0, sv 1, sv 2] → c.post.vs = [tt] → bL c.pre [.int .i64 z, .int .u32 x, .bool cl] [] = true → c.F [.int .i64 z, .int .u32 x, .bool cl] [] = some ([.bool true], []) → Calls Tryz.prog 4 ⟨[.int .i64 z, .int .u32 x, .bool cl]⟩ W fun e w' => e = .returned (.bool true) ∧ Below W.heap.size W w' := by
    intro c hg hpan hmem hpre hpost hb hF
    rw [← hg]
    refine (c.enter hpan hmem hb hF (rfl : [Value.int .i64 z, .int .u32 x, .bool cl].all isOneV = true) (W := W) (args := [.int .i64 z, .int .u32 x, .bool cl]) ?_).mono ?_
    · rw [hpre]
      exact @VRL.cons (symL _ _ _) _ _ _ _ _ (@VR.sym (symL _ _ _) _ _ _ _ _ rfl) (@VRL.cons (symL _ _ _) _ _ _ _ _ (@VR.sym (symL _ _ _) _ _ _ _ _ rfl) (@VRL.cons (symL _ _ _) _ _ _ _ _ (@VR.sym (symL _ _ _) _ _ _ _ _ rfl) (@VRL.nil (symL _ _ _) _)))
    · rintro e w' ⟨v, rfl, hS, hbel⟩
      refine ⟨?_, hbel⟩
      obtain ⟨φ', hv⟩ := hS (symL [.bool true] [] rfl) symL_agrees
      rw [hpost] at hv
      have hv : @VR (symL [.bool true] [] rfl) φ' (.bool true) v := hv
      cases hv
      rfl
  have h' : (decide (IntKind.u32.min ≤ x) && decide (x ≤ IntKind.u32.max)) = true := hx
  have q := Bool.and_eq_true_iff.1 h'
  have q1 : 0 ≤ x := of_decide_eq_true q.1
  have q2 : x ≤ 4294967295 := of_decide_eq_true q.2
  obtain ⟨y, rfl⟩ : ∃ y : Nat, x = (y : Int) := ⟨x.toNat, by omega⟩
  have hy : y < 4294967296 := by omega
  obtain ⟨d⟩ := dg z
  have hb := d.hb
  have h4 : d.b = 0 ∨ d.b = 1 ∨ d.b = 2 ∨ d.b = 3 := by omega
  rcases h4 with h | h | h | h
  · exact fin t0_c rfl rfl rfl rfl rfl rfl (law0 hy cl (k := d.t) (Nat.lt_of_lt_of_le d.ht (by omega)) (gs0 d.g d.m d.r d.hm d.hr d.t _ _ _ _ _ _ _) (d.f0 h))
  · exact fin t1_c rfl rfl rfl rfl rfl rfl (law1 hy cl (k := d.t) (Nat.lt_of_lt_of_le d.ht (by omega)) (gs1 d.g d.m d.r d.hm d.hr d.t _ _ _ _ _ _ _) (d.f1 h))
  · exact fin t2_c rfl rfl rfl rfl rfl rfl (law2 hy cl (k := d.t) (Nat.lt_of_lt_of_le d.ht (by omega)) (gs2 d.g d.m d.r d.hm d.hr d.t _ _ _ _ _ _ _) (d.f2 h))
  · exact fin t3_c rfl rfl rfl rfl rfl rfl (law3 hy cl (k := d.t) (Nat.lt_of_lt_of_le d.ht (by omega)) (gs3 d.g d.m d.r d.hm d.hr d.t _ _ _ _ _ _ _) (d.f3 h))
end Go.Proofs.YtgddinljekkhdaaGreat.U
