/- HistoryRead: the reference's Check, and the comparisons. -/
import Derived.Test.YtfcjlgdpdomoeaaGreatUH
set_option linter.unusedSimpArgs false
set_option linter.unusedVariables false
namespace Go.Proofs.YtfcjlgdpdomoeaaGreat.U
open Go Go.Eng
def sameOps : List OpV → List OpV → Bool
  | [], [] => true
  | a :: r, b :: t => sameO a b && sameOps r t
  | _, _ => false
theorem sameOps_len : ∀ (l1 l2 : List OpV), l1.length ≠ l2.length → sameOps l1 l2 = false
  | [], [], h => absurd rfl h
  | [], _ :: _, _ => rfl
  | _ :: _, [], _ => rfl
  | a :: r, b :: t, h => by
    show (sameO a b && sameOps r t) = false
    rw [sameOps_len r t (by simpa using h), Bool.and_false]
theorem sameOps_drop {l1 l2 : List OpV} {i : Nat} {a b : OpV} (h1 : l1[i]? = some a) (h2 : l2[i]? = some b) : sameOps (l1.drop i) (l2.drop i) = (sameO a b && sameOps (l1.drop (i + 1)) (l2.drop (i + 1))) := by
  obtain ⟨hi, rfl⟩ := List.getElem?_eq_some_iff.1 h1
  obtain ⟨hj, rfl⟩ := List.getElem?_eq_some_iff.1 h2
  rw [List.drop_eq_getElem_cons hi, List.drop_eq_getElem_cons hj]
  rfl
noncomputable abbrev sD : List (Ctr Tryz.prog) := [opeq_c]
theorem same_1 {V1 V2 : Value} {l1 l2 : List OpV} (h1 : OpsV V1 l1) (h2 : OpsV V2 l2) (hn : l1.length = l2.length) : ∀ (k i : Nat), i ≤ l1.length → l1.length - i < k →
    runT sD same_f k 1 [.int .i64 (l1.length : Int), .int .i64 (i : Int)] [V1, V2] = some ([.bool (sameOps (l1.drop i) (l2.drop i))], noL) := by
  intro k
  induction k with
  | zero => intro i _ h; omega
  | succ k ih =>
    intro i hi hk
    refine Eq.trans (CFn.step _ rfl) ?_
    refine Eq.trans (evK_t (decide ((i : Int) < (l1.length : Int))) rfl) ?_
    by_cases hlt : i < l1.length
    · have hlt2 : i < l2.length := by omega
      rw [decide_eq_true (by omega : (i : Int) < (l1.length : Int)), cond_true]
      obtain ⟨e1, _⟩ := h1.elem (getI hlt)
      obtain ⟨f1, _⟩ := h2.elem (getI hlt2)
      refine Eq.trans (evK_e (plV l1[i]) e1 rfl) ?_
      refine Eq.trans (evK_l (opL l1[i]) (opL l1[i]) [] rfl rfl) ?_
      refine Eq.trans (evK_e (plV l2[i]) f1 rfl) ?_
      refine Eq.trans (evK_l (opL l2[i]) (opL l2[i]) [] rfl rfl) ?_
      refine Eq.trans (evK_c [.bool (sameO l1[i] l2[i])] [] rfl (opeq_F l1[i] l2[i])) ?_
      rw [sameOps_drop (getI hlt) (getI hlt2)]
      generalize sameO l1[i] l2[i] = e
      refine Eq.trans (evK_d (.bool (!e)) rfl) ?_
      refine Eq.trans (evK_t (!e) rfl) ?_
      cases e with
      | true =>
        rw [Bool.not_true, cond_false, Bool.true_and]
        refine Eq.trans (evK_d (.int .i64 ((i + 1 : Nat) : Int)) (inc_sev hlt h1.short)) ?_
        exact ih (i + 1) (by omega) (by omega)
      | false => rfl
    · have : i = l1.length := by omega
      subst this
      rw [decide_eq_false (by omega), cond_false, List.drop_length, hn, List.drop_length]
      rfl
theorem same_cF (l k : List Value) : same_c.F l k = CFn.F (P := Tryz.prog) sD same_f l k := by kernel_rfl
theorem same_F {V1 V2 : Value} {l1 l2 : List OpV} (h1 : OpsV V1 l1) (h2 : OpsV V2 l2) : same_c.F [] [V1, V2] = some ([.bool (sameOps l1 l2)], noL) := by
  rw [same_cF]
  have hs := h1.short
  refine CFn.begin (l1.length + 2) (by unfold manyK; omega) ?_
  refine Eq.trans (CFn.step _ rfl) ?_
  refine Eq.trans (evK_es (.int .i64 (l1.length : Int)) h1.len rfl) ?_
  refine Eq.trans (evK_es (.int .i64 (l2.length : Int)) h2.len rfl) ?_
  refine Eq.trans (evK_t ((l1.length : Int) != (l2.length : Int)) rfl) ?_
  by_cases hn : l1.length = l2.length
  · have e0 : ((l1.length : Int) != (l2.length : Int)) = false := by rw [hn]; exact bne_self_eq_false _
    rw [e0, cond_false]
    exact same_1 h1 h2 hn (l1.length + 1) 0 (by omega) (by omega)
  · have e0 : ((l1.length : Int) != (l2.length : Int)) = true := bne_iff_ne.2 (by omega)
    rw [e0, sameOps_len _ _ hn]
    rfl
end Go.Proofs.YtfcjlgdpdomoeaaGreat.U
