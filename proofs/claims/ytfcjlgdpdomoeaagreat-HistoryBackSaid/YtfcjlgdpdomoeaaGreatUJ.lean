/- HistoryRead: both comparisons of scripts. -/
import Derived.Test.YtfcjlgdpdomoeaaGreatUI
set_option linter.unusedSimpArgs false
set_option linter.unusedVariables false
namespace Go.Proofs.YtfcjlgdpdomoeaaGreat.U
open Go Go.Eng
/-- setups alike, and more -/
def sameA (s t : Su) (b : Bool) : Bool := (s.x == t.x) && ((s.fx == t.fx) && ((s.y == t.y) && ((s.fy == t.fy) && ((s.d == t.d) && ((s.fd == t.fd) && ((s.m == t.m) && ((s.r == t.r) && ((s.ns == t.ns) && ((s.nt == t.nt) && ((s.nq == t.nq) && b))))))))))
theorem bneF (b : Bool) : (b != false) = b := by cases b <;> rfl
theorem hsame_cF (l k : List Value) : hsame_c.F l k = CFn.F (P := Tryz.prog) [same_c] hsame_f l k := by kernel_rfl
theorem hsame_F (s t : Su) {V1 V2 : Value} {l1 l2 : List OpV} (h1 : OpsV V1 l1) (h2 : OpsV V2 l2) : hsame_c.F (suL s ++ suL t) [V1, V2] = some ([.bool (sameA s t (sameOps l1 l2))], noL) := by
  rw [hsame_cF]
  refine CFn.flat (cs := [same_c]) (F := hsame_f) _ rfl ?_
  unfold sameA
  refine Eq.trans (evK_t (s.x == t.x) rfl) ?_
  generalize (s.x == t.x) = c
  cases c with
  | false => rfl
  | true =>
  rw [cond_true, Bool.true_and]
  refine Eq.trans (evK_t ((s.fx == t.fx) != false) rfl) ?_
  rw [bneF]
  generalize (s.fx == t.fx) = c
  cases c with
  | false => rfl
  | true =>
  rw [cond_true, Bool.true_and]
  refine Eq.trans (evK_t (s.y == t.y) rfl) ?_
  generalize (s.y == t.y) = c
  cases c with
  | false => rfl
  | true =>
  rw [cond_true, Bool.true_and]
  refine Eq.trans (evK_t ((s.fy == t.fy) != false) rfl) ?_
  rw [bneF]
  generalize (s.fy == t.fy) = c
  cases c with
  | false => rfl
  | true =>
  rw [cond_true, Bool.true_and]
  refine Eq.trans (evK_t (s.d == t.d) rfl) ?_
  generalize (s.d == t.d) = c
  cases c with
  | false => rfl
  | true =>
  rw [cond_true, Bool.true_and]
  refine Eq.trans (evK_t ((s.fd == t.fd) != false) rfl) ?_
  rw [bneF]
  generalize (s.fd == t.fd) = c
  cases c with
  | false => rfl
  | true =>
  rw [cond_true, Bool.true_and]
  refine Eq.trans (evK_t (s.m == t.m) rfl) ?_
  generalize (s.m == t.m) = c
  cases c with
  | false => rfl
  | true =>
  rw [cond_true, Bool.true_and]
  refine Eq.trans (evK_t (s.r == t.r) rfl) ?_
  generalize (s.r == t.r) = c
  cases c with
  | false => rfl
  | true =>
  rw [cond_true, Bool.true_and]
  refine Eq.trans (evK_t (s.ns == t.ns) rfl) ?_
  generalize (s.ns == t.ns) = c
  cases c with
  | false => rfl
  | true =>
  rw [cond_true, Bool.true_and]
  refine Eq.trans (evK_t (s.nt == t.nt) rfl) ?_
  generalize (s.nt == t.nt) = c
  cases c with
  | false => rfl
  | true =>
  rw [cond_true, Bool.true_and]
  refine Eq.trans (evK_t (s.nq == t.nq) rfl) ?_
  generalize (s.nq == t.nq) = c
  cases c with
  | false => rfl
  | true =>
  rw [cond_true, Bool.true_and]
  exact evK_c [.bool (sameOps l1 l2)] [] rfl (same_F h1 h2)
end Go.Proofs.YtfcjlgdpdomoeaaGreat.U
