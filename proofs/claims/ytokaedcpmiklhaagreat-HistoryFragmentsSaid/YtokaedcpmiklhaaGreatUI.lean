/- HistoryChecks: the reference's Check, and the comparisons. -/
import Derived.Test.YtokaedcpmiklhaaGreatUH
set_option linter.unusedSimpArgs false
set_option linter.unusedVariables false
namespace Go.Proofs.YtokaedcpmiklhaaGreat.U
open Go Go.Eng
noncomputable abbrev rD : List (Ctr Tryz.prog) := [qck_c, one_c]
theorem rchk_2 (s : Su) {V : Value} {l : List OpV} (hV : OpsV V l) : ∀ (k i : Nat), i ≤ l.length → l.length - i < k → runT rD rchk_f k 2 (suL s ++ [.int .i64 (i : Int)]) [V] = some ([.int .i64 (firstE (l.drop i))], noL) := by
  intro k
  induction k with
  | zero => intro i _ h; omega
  | succ k ih =>
    intro i hi hk
    refine Eq.trans (CFn.step _ rfl) ?_
    refine Eq.trans (evK_es (.int .i64 (l.length : Int)) hV.len rfl) ?_
    refine Eq.trans (evK_t (decide ((i : Int) < (l.length : Int))) rfl) ?_
    by_cases hlt : i < l.length
    · rw [decide_eq_true (by omega : (i : Int) < (l.length : Int)), cond_true]
      obtain ⟨e1, _⟩ := hV.elem (getI hlt)
      refine Eq.trans (evK_e (plV l[i]) e1 rfl) ?_
      refine Eq.trans (evK_l (opL l[i]) (opL l[i]) [] rfl rfl) ?_
      refine Eq.trans (evK_c [.int .i64 (opE l[i].k l[i].s l[i].b l[i].n)] [] rfl (one_F l[i])) ?_
      rw [firstE_drop (getI hlt)]
      generalize opE l[i].k l[i].s l[i].b l[i].n = e
      refine Eq.trans (evK_t (e != 0) rfl) ?_
      by_cases he : e = 0
      · subst he
        rw [if_pos rfl, show ((0 : Int) != 0) = false from rfl, cond_false]
        refine Eq.trans (evK_d (.int .i64 ((i + 1 : Nat) : Int)) (inc_sev hlt hV.short)) ?_
        exact ih (i + 1) (by omega) (by omega)
      · rw [if_neg he, bne_iff_ne.2 he]
        rfl
    · have : i = l.length := by omega
      subst this
      rw [decide_eq_false (by omega), cond_false, List.drop_length]
      rfl
theorem rchk_1 (s : Su) {V : Value} {l : List OpV} (hV : OpsV V l) (hm : l.length ≤ 400 → manyAt l l.length ≤ 65536) : ∀ (k i : Nat), i ≤ l.length → l.length - i + l.length + 1 < k →
    runT rD rchk_f k 1 (suL s ++ [.int .i64 (manyAt l i), .int .i64 (i : Int)]) [V] = some ([.int .i64 (if 400 < l.length then 6 else firstE l)], noL) := by
  intro k
  induction k with
  | zero => intro i _ h; omega
  | succ k ih =>
    intro i hi hk
    refine Eq.trans (CFn.step _ rfl) ?_
    refine Eq.trans (evK_es (.int .i64 (l.length : Int)) hV.len rfl) ?_
    refine Eq.trans (evK_t (decide ((i : Int) < (l.length : Int))) rfl) ?_
    by_cases hlt : i < l.length
    · rw [decide_eq_true (by omega : (i : Int) < (l.length : Int)), cond_true]
      obtain ⟨e1, _⟩ := hV.elem (getI hlt)
      refine Eq.trans (evK_e (plV l[i]) e1 rfl) ?_
      refine Eq.trans (evK_e (.iface 2 (.agg ⟨opL l[i]⟩)) rfl rfl) ?_
      refine Eq.trans (evK_l (opL l[i]) [.string l[i].b] [] rfl rfl) ?_
      refine Eq.trans (evK_d (.int .i64 ((l[i].b.size : Nat) : Int)) rfl) ?_
      refine Eq.trans (evK_d (.int .i64 (manyAt l (i + 1))) (by rw [manyAt_succ (getI hlt)]; rfl)) ?_
      refine Eq.trans (evK_d (.int .i64 ((i + 1 : Nat) : Int)) (inc_sev hlt hV.short)) ?_
      exact ih (i + 1) (by omega) (by omega)
    · have : i = l.length := by omega
      subst this
      rw [decide_eq_false (by omega), cond_false]
      refine Eq.trans (evK_t (decide ((l.length : Int) > 400)) rfl) ?_
      by_cases hl : 400 < l.length
      · rw [if_pos hl, decide_eq_true (by omega)]
        rfl
      · rw [if_neg hl, decide_eq_false (by omega), cond_false]
        have h2 := hm (by omega)
        refine Eq.trans (evK_t (decide (manyAt l l.length > 65536)) rfl) ?_
        rw [decide_eq_false (by omega), cond_false]
        exact rchk_2 s hV k 0 (by omega) (by omega)
theorem rchk_cF (l k : List Value) : rchk_c.F l k = CFn.F (P := Tryz.prog) rD rchk_f l k := by kernel_rfl
theorem rchk_F (s : Su) {V : Value} {l : List OpV} (hV : OpsV V l) (hm : l.length ≤ 400 → manyAt l l.length ≤ 65536) : rchk_c.F (suL s) [V] = some ([.int .i64 (chk s l)], noL) := by
  rw [rchk_cF]
  have h1 := hV.short
  refine CFn.begin (2 * l.length + 3) (by unfold manyK; omega) ?_
  refine Eq.trans (CFn.step _ rfl) ?_
  refine Eq.trans (evK_c [.int .i64 (ckSv s)] [] rfl (qck_F s)) ?_
  refine Eq.trans (evK_t (ckSv s != 0) rfl) ?_
  unfold chk
  rcases ckSv_cases s with h | h
  · rw [h, if_pos rfl, show ((0 : Int) != 0) = false from rfl, cond_false]
    exact rchk_1 s hV hm (2 * l.length + 2) 0 (by omega) (by omega)
  · rw [h]
    rfl
def sameOps : List OpV → List OpV → Bool
  | [], [] => true
  | a :: r, b :: t => sameO a b && sameOps r t
  | _, _ => false
theorem sameOps_len : ∀ (l1 l2 : List OpV), l1.length ≠ l2.length → sameOps l1 l2 = false
  | [], [], h => absurd rfl h
  | [], _ :: _, _ => rfl
  | _ :: _, [], _ => rfl
  | a :: r, b :: t, h => by
    show (sameO a b && sameOps r t) = false
    rw [sameOps_len r t (by simpa using h), Bool.and_false]
theorem sameOps_drop {l1 l2 : List OpV} {i : Nat} {a b : OpV} (h1 : l1[i]? = some a) (h2 : l2[i]? = some b) : sameOps (l1.drop i) (l2.drop i) = (sameO a b && sameOps (l1.drop (i + 1)) (l2.drop (i + 1))) := by
  obtain ⟨hi, rfl⟩ := List.getElem?_eq_some_iff.1 h1
  obtain ⟨hj, rfl⟩ := List.getElem?_eq_some_iff.1 h2
  rw [List.drop_eq_getElem_cons hi, List.drop_eq_getElem_cons hj]
  rfl
noncomputable abbrev sD : List (Ctr Tryz.prog) := [opeq_c]
theorem same_1 {V1 V2 : Value} {l1 l2 : List OpV} (h1 : OpsV V1 l1) (h2 : OpsV V2 l2) (hn : l1.length = l2.length) : ∀ (k i : Nat), i ≤ l1.length → l1.length - i < k →
    runT sD same_f k 1 [.int .i64 (l1.length : Int), .int .i64 (i : Int)] [V1, V2] = some ([.bool (sameOps (l1.drop i) (l2.drop i))], noL) := by
  intro k
  induction k with
  | zero => intro i _ h; omega
  | succ k ih =>
    intro i hi hk
    refine Eq.trans (CFn.step _ rfl) ?_
    refine Eq.trans (evK_t (decide ((i : Int) < (l1.length : Int))) rfl) ?_
    by_cases hlt : i < l1.length
    · have hlt2 : i < l2.length := by omega
      rw [decide_eq_true (by omega : (i : Int) < (l1.length : Int)), cond_true]
      obtain ⟨e1, _⟩ := h1.elem (getI hlt)
      obtain ⟨f1, _⟩ := h2.elem (getI hlt2)
      refine Eq.trans (evK_e (plV l1[i]) e1 rfl) ?_
      refine Eq.trans (evK_l (opL l1[i]) (opL l1[i]) [] rfl rfl) ?_
      refine Eq.trans (evK_e (plV l2[i]) f1 rfl) ?_
      refine Eq.trans (evK_l (opL l2[i]) (opL l2[i]) [] rfl rfl) ?_
      refine Eq.trans (evK_c [.bool (sameO l1[i] l2[i])] [] rfl (opeq_F l1[i] l2[i])) ?_
      rw [sameOps_drop (getI hlt) (getI hlt2)]
      generalize sameO l1[i] l2[i] = e
      refine Eq.trans (evK_d (.bool (!e)) rfl) ?_
      refine Eq.trans (evK_t (!e) rfl) ?_
      cases e with
      | true =>
        rw [Bool.not_true, cond_false, Bool.true_and]
        refine Eq.trans (evK_d (.int .i64 ((i + 1 : Nat) : Int)) (inc_sev hlt h1.short)) ?_
        exact ih (i + 1) (by omega) (by omega)
      | false => rfl
    · have : i = l1.length := by omega
      subst this
      rw [decide_eq_false (by omega), cond_false, List.drop_length, hn, List.drop_length]
      rfl
theorem same_cF (l k : List Value) : same_c.F l k = CFn.F (P := Tryz.prog) sD same_f l k := by kernel_rfl
theorem same_F {V1 V2 : Value} {l1 l2 : List OpV} (h1 : OpsV V1 l1) (h2 : OpsV V2 l2) : same_c.F [] [V1, V2] = some ([.bool (sameOps l1 l2)], noL) := by
  rw [same_cF]
  have hs := h1.short
  refine CFn.begin (l1.length + 2) (by unfold manyK; omega) ?_
  refine Eq.trans (CFn.step _ rfl) ?_
  refine Eq.trans (evK_es (.int .i64 (l1.length : Int)) h1.len rfl) ?_
  refine Eq.trans (evK_es (.int .i64 (l2.length : Int)) h2.len rfl) ?_
  refine Eq.trans (evK_t ((l1.length : Int) != (l2.length : Int)) rfl) ?_
  by_cases hn : l1.length = l2.length
  · have e0 : ((l1.length : Int) != (l2.length : Int)) = false := by rw [hn]; exact bne_self_eq_false _
    rw [e0, cond_false]
    exact same_1 h1 h2 hn (l1.length + 1) 0 (by omega) (by omega)
  · have e0 : ((l1.length : Int) != (l2.length : Int)) = true := bne_iff_ne.2 (by omega)
    rw [e0, sameOps_len _ _ hn]
    rfl
end Go.Proofs.YtokaedcpmiklhaaGreat.U
