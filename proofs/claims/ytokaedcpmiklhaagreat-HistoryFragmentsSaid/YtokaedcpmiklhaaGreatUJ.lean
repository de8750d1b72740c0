/- HistoryChecks: both comparisons of scripts. -/
import Derived.Test.YtokaedcpmiklhaaGreatUI
set_option linter.unusedSimpArgs false
set_option linter.unusedVariables false
namespace Go.Proofs.YtokaedcpmiklhaaGreat.U
open Go Go.Eng
/-- setups alike, and more -/
def sameA (s t : Su) (b : Bool) : Bool := (s.x == t.x) && ((s.fx == t.fx) && ((s.y == t.y) && ((s.fy == t.fy) && ((s.d == t.d) && ((s.fd == t.fd) && ((s.m == t.m) && ((s.r == t.r) && ((s.ns == t.ns) && ((s.nt == t.nt) && ((s.nq == t.nq) && b))))))))))
theorem bneF (b : Bool) : (b != false) = b := by cases b <;> rfl
theorem hsame_cF (l k : List Value) : hsame_c.F l k = CFn.F (P := Tryz.prog) [same_c] hsame_f l k := by kernel_rfl
theorem rsame_cF (l k : List Value) : rsame_c.F l k = CFn.F (P := Tryz.prog) [] rsame_f l k := by kernel_rfl
theorem hsame_F (s t : Su) {V1 V2 : Value} {l1 l2 : List OpV} (h1 : OpsV V1 l1) (h2 : OpsV V2 l2) : hsame_c.F (suL s ++ suL t) [V1, V2] = some ([.bool (sameA s t (sameOps l1 l2))], noL) := by
  rw [hsame_cF]
  refine CFn.flat (cs := [same_c]) (F := hsame_f) _ rfl ?_
  unfold sameA
  refine Eq.trans (evK_t (s.x == t.x) rfl) ?_
  generalize (s.x == t.x) = c
  cases c with
  | false => rfl
  | true =>
  rw [cond_true, Bool.true_and]
  refine Eq.trans (evK_t ((s.fx == t.fx) != false) rfl) ?_
  rw [bneF]
  generalize (s.fx == t.fx) = c
  cases c with
  | false => rfl
  | true =>
  rw [cond_true, Bool.true_and]
  refine Eq.trans (evK_t (s.y == t.y) rfl) ?_
  generalize (s.y == t.y) = c
  cases c with
  | false => rfl
  | true =>
  rw [cond_true, Bool.true_and]
  refine Eq.trans (evK_t ((s.fy == t.fy) != false) rfl) ?_
  rw [bneF]
  generalize (s.fy == t.fy) = c
  cases c with
  | false => rfl
  | true =>
  rw [cond_true, Bool.true_and]
  refine Eq.trans (evK_t (s.d == t.d) rfl) ?_
  generalize (s.d == t.d) = c
  cases c with
  | false => rfl
  | true =>
  rw [cond_true, Bool.true_and]
  refine Eq.trans (evK_t ((s.fd == t.fd) != false) rfl) ?_
  rw [bneF]
  generalize (s.fd == t.fd) = c
  cases c with
  | false => rfl
  | true =>
  rw [cond_true, Bool.true_and]
  refine Eq.trans (evK_t (s.m == t.m) rfl) ?_
  generalize (s.m == t.m) = c
  cases c with
  | false => rfl
  | true =>
  rw [cond_true, Bool.true_and]
  refine Eq.trans (evK_t (s.r == t.r) rfl) ?_
  generalize (s.r == t.r) = c
  cases c with
  | false => rfl
  | true =>
  rw [cond_true, Bool.true_and]
  refine Eq.trans (evK_t (s.ns == t.ns) rfl) ?_
  generalize (s.ns == t.ns) = c
  cases c with
  | false => rfl
  | true =>
  rw [cond_true, Bool.true_and]
  refine Eq.trans (evK_t (s.nt == t.nt) rfl) ?_
  generalize (s.nt == t.nt) = c
  cases c with
  | false => rfl
  | true =>
  rw [cond_true, Bool.true_and]
  refine Eq.trans (evK_t (s.nq == t.nq) rfl) ?_
  generalize (s.nq == t.nq) = c
  cases c with
  | false => rfl
  | true =>
  rw [cond_true, Bool.true_and]
  exact evK_c [.bool (sameOps l1 l2)] [] rfl (same_F h1 h2)
theorem rsame_1 (s t : Su) {V1 V2 : Value} {l1 l2 : List OpV} (h1 : OpsV V1 l1) (h2 : OpsV V2 l2) (hn : l1.length = l2.length) : ∀ (k i : Nat), i ≤ l1.length → l1.length - i < k →
    runT [] rsame_f k 1 (suL s ++ suL t ++ [.int .i64 (i : Int)]) [V1, V2] = some ([.bool (sameOps (l1.drop i) (l2.drop i))], noL) := by
  intro k
  induction k with
  | zero => intro i _ h; omega
  | succ k ih =>
    intro i hi hk
    refine Eq.trans (CFn.step _ rfl) ?_
    refine Eq.trans (evK_es (.int .i64 (l1.length : Int)) h1.len rfl) ?_
    refine Eq.trans (evK_t (decide ((i : Int) < (l1.length : Int))) rfl) ?_
    by_cases hlt : i < l1.length
    · have hlt2 : i < l2.length := by omega
      rw [decide_eq_true (by omega : (i : Int) < (l1.length : Int)), cond_true]
      obtain ⟨e1, _⟩ := h1.elem (getI hlt)
      obtain ⟨f1, _⟩ := h2.elem (getI hlt2)
      refine Eq.trans (evK_e (plV l1[i]) e1 rfl) ?_
      refine Eq.trans (evK_l (opL l1[i]) (opL l1[i]) [] rfl rfl) ?_
      refine Eq.trans (evK_e (plV l2[i]) f1 rfl) ?_
      refine Eq.trans (evK_l (opL l2[i]) (opL l2[i]) [] rfl rfl) ?_
      rw [sameOps_drop (getI hlt) (getI hlt2)]
      unfold sameO
      refine Eq.trans (evK_t (l1[i].k == l2[i].k) rfl) ?_
      rw [show decide (l1[i].k = l2[i].k) = (l1[i].k == l2[i].k) from rfl, show decide (l1[i].s = l2[i].s) = (l1[i].s == l2[i].s) from rfl, show decide (l1[i].n = l2[i].n) = (l1[i].n == l2[i].n) from rfl]
      generalize (l1[i].k == l2[i].k) = c
      cases c with
      | false => rfl
      | true =>
      rw [cond_true, Bool.true_and]
      refine Eq.trans (evK_t (l1[i].s == l2[i].s) rfl) ?_
      generalize (l1[i].s == l2[i].s) = c
      cases c with
      | false => rfl
      | true =>
      rw [cond_true, Bool.true_and]
      refine Eq.trans (evK_t (l1[i].b.data.toList == l2[i].b.data.toList) rfl) ?_
      generalize (l1[i].b.data.toList == l2[i].b.data.toList) = c
      cases c with
      | false => rfl
      | true =>
      rw [cond_true, Bool.true_and]
      refine Eq.trans (evK_t (l1[i].n == l2[i].n) rfl) ?_
      generalize (l1[i].n == l2[i].n) = c
      cases c with
      | false => rfl
      | true =>
      rw [cond_true, Bool.true_and]
      refine Eq.trans (evK_d (.int .i64 ((i + 1 : Nat) : Int)) (inc_sev hlt h1.short)) ?_
      exact ih (i + 1) (by omega) (by omega)
    · have : i = l1.length := by omega
      subst this
      rw [decide_eq_false (by omega), cond_false, List.drop_length, hn, List.drop_length]
      rfl
theorem rsame_F (s t : Su) {V1 V2 : Value} {l1 l2 : List OpV} (h1 : OpsV V1 l1) (h2 : OpsV V2 l2) : rsame_c.F (suL s ++ suL t) [V1, V2] = some ([.bool (sameA s t (sameOps l1 l2))], noL) := by
  rw [rsame_cF]
  have hs := h1.short
  refine CFn.begin (l1.length + 2) (by unfold manyK; omega) ?_
  refine Eq.trans (CFn.step _ rfl) ?_
  unfold sameA
  refine Eq.trans (evK_t (s.x == t.x) rfl) ?_
  generalize (s.x == t.x) = c
  cases c with
  | false => rfl
  | true =>
  rw [cond_true, Bool.true_and]
  refine Eq.trans (evK_t ((s.fx == t.fx) != false) rfl) ?_
  rw [bneF]
  generalize (s.fx == t.fx) = c
  cases c with
  | false => rfl
  | true =>
  rw [cond_true, Bool.true_and]
  refine Eq.trans (evK_t (s.y == t.y) rfl) ?_
  generalize (s.y == t.y) = c
  cases c with
  | false => rfl
  | true =>
  rw [cond_true, Bool.true_and]
  refine Eq.trans (evK_t ((s.fy == t.fy) != false) rfl) ?_
  rw [bneF]
  generalize (s.fy == t.fy) = c
  cases c with
  | false => rfl
  | true =>
  rw [cond_true, Bool.true_and]
  refine Eq.trans (evK_t (s.d == t.d) rfl) ?_
  generalize (s.d == t.d) = c
  cases c with
  | false => rfl
  | true =>
  rw [cond_true, Bool.true_and]
  refine Eq.trans (evK_t ((s.fd == t.fd) != false) rfl) ?_
  rw [bneF]
  generalize (s.fd == t.fd) = c
  cases c with
  | false => rfl
  | true =>
  rw [cond_true, Bool.true_and]
  refine Eq.trans (evK_t (s.m == t.m) rfl) ?_
  generalize (s.m == t.m) = c
  cases c with
  | false => rfl
  | true =>
  rw [cond_true, Bool.true_and]
  refine Eq.trans (evK_t (s.r == t.r) rfl) ?_
  generalize (s.r == t.r) = c
  cases c with
  | false => rfl
  | true =>
  rw [cond_true, Bool.true_and]
  refine Eq.trans (evK_t (s.ns == t.ns) rfl) ?_
  generalize (s.ns == t.ns) = c
  cases c with
  | false => rfl
  | true =>
  rw [cond_true, Bool.true_and]
  refine Eq.trans (evK_t (s.nt == t.nt) rfl) ?_
  generalize (s.nt == t.nt) = c
  cases c with
  | false => rfl
  | true =>
  rw [cond_true, Bool.true_and]
  refine Eq.trans (evK_t (s.nq == t.nq) rfl) ?_
  generalize (s.nq == t.nq) = c
  cases c with
  | false => rfl
  | true =>
  rw [cond_true, Bool.true_and]
  refine Eq.trans (evK_es (.int .i64 (l1.length : Int)) h1.len rfl) ?_
  refine Eq.trans (evK_es (.int .i64 (l2.length : Int)) h2.len rfl) ?_
  refine Eq.trans (evK_t ((l1.length : Int) != (l2.length : Int)) rfl) ?_
  by_cases hn : l1.length = l2.length
  · have e0 : ((l1.length : Int) != (l2.length : Int)) = false := by rw [hn]; exact bne_self_eq_false _
    rw [e0, cond_false]
    exact rsame_1 s t h1 h2 hn (l1.length + 1) 0 (by omega) (by omega)
  · have e0 : ((l1.length : Int) != (l2.length : Int)) = true := bne_iff_ne.2 (by omega)
    rw [e0, sameOps_len _ _ hn]
    rfl
end Go.Proofs.YtokaedcpmiklhaaGreat.U
