/- HistoryRead: what the functions without loops say, the second part. -/
import Derived.Test.YtfcjlgdpdomoeaaGreatUE
set_option linter.unusedSimpArgs false
set_option linter.unusedVariables false
namespace Go.Proofs.YtfcjlgdpdomoeaaGreat.U
open Go Go.Eng
theorem ckRoom_cases (s : Su) : ckRoom s = 0 ∨ ckRoom s = 3 := by
  unfold ckRoom ckS
  split
  · exact .inl rfl
  · exact .inr rfl
def sck_t (s : Su) : Option (List Value × List Value) :=
  bif ((ckRoom s) != (0)) then some ([.int .i64 ((ckRoom s))], noL)
  else bif (decide (s.ns < (1))) then some ([.int .i64 (3)], noL)
  else bif (decide (s.ns > (16))) then some ([.int .i64 (3)], noL)
  else bif (decide (s.nt < (1))) then some ([.int .i64 (3)], noL)
  else bif (decide (s.nt > (64))) then some ([.int .i64 (3)], noL)
  else bif (decide (s.nq < (1))) then some ([.int .i64 (3)], noL)
  else bif (decide (s.nq > (65536))) then some ([.int .i64 (3)], noL)
  else some ([.int .i64 (0)], noL)
theorem sck_q (s : Su) : sck_t s = some ([.int .i64 (ckSv s)], noL) := by
  have h := ckRoom_cases s
  unfold sck_t ckSv
  generalize ckRoom s = c at *
  have key : ∀ a b : Int, a = b → some ([Value.int .i64 a], noL) = some ([.int .i64 b], noL) := fun a b h => by rw [h]
  (repeat' (refine Go.Eng.both (fun h => ?_) (fun h => ?_)))
  all_goals first
    | (refine key _ _ ?_; (simp only [decide_eq_true_eq, decide_eq_false_iff_not, beq_iff_eq, beq_eq_false_iff_ne, bne_iff_ne, bne_eq_false_iff_eq, ne_eq, Bool.not_not, Bool.not_eq_true', Bool.not_eq_false', not_true_eq_false] at *); repeat' split
       all_goals omega)
    | (exfalso; (simp only [decide_eq_true_eq, decide_eq_false_iff_not, beq_iff_eq, beq_eq_false_iff_ne, bne_iff_ne, bne_eq_false_iff_eq, ne_eq, Bool.not_not, Bool.not_eq_true', Bool.not_eq_false', not_true_eq_false] at *) <;> omega)
theorem sck_cF (l k : List Value) : sck_c.F l k = CFn.F (P := Tryz.prog) [wck_c] sck_f l k := rfl
theorem sck_F (s : Su) (hx : i64R s.x) (hy : i64R s.y) (hd : i64R s.d) : sck_c.F (suL s) [] = some ([.int .i64 (ckSv s)], noL) := by
  rw [sck_cF]
  refine CFn.flat (cs := [wck_c]) (F := sck_f) _ rfl ?_
  refine Eq.trans (evK_c [.int .i64 (ckRoom s)] [] rfl (wck_F s hx hy hd)) ?_
  exact Eq.trans (b := sck_t s) (by kernel_rfl) (sck_q s)
def op_t (k s : Int) (b : ByteArray) (n : Int) : Option (List Value × List Value) :=
  bif (k == (1)) then bif (k == k) then bif ((0) == s) then bif ((⟨⟨[]⟩⟩ : ByteArray).data.toList == b.data.toList) then bif ((0) == n) then bif (k != (1)) then none
            else bif (decide (n < (0))) then none
            else bif (decide (n > (65536))) then some ([.int .i64 (3)], noL)
            else some ([.int .i64 (0)], noL)
          else some ([.int .i64 (4)], noL)
        else some ([.int .i64 (4)], noL)
      else some ([.int .i64 (4)], noL)
    else none
  else bif (k == (5)) then bif (k == k) then bif ((0) == s) then bif ((⟨⟨[]⟩⟩ : ByteArray).data.toList == b.data.toList) then bif ((0) == n) then bif (k != (1)) then bif (k != (5)) then none
              else bif (decide (n < (0))) then none
              else bif (decide (n > (65536))) then some ([.int .i64 (3)], noL)
              else some ([.int .i64 (0)], noL)
            else none
          else some ([.int .i64 (4)], noL)
        else some ([.int .i64 (4)], noL)
      else some ([.int .i64 (4)], noL)
    else none
  else bif (k == (2)) then bif (k == k) then bif (s == s) then bif ((⟨⟨[]⟩⟩ : ByteArray).data.toList == b.data.toList) then bif ((0) == n) then bif (k != (1)) then bif (k != (5)) then bif (decide (s < (1))) then some ([.int .i64 (3)], noL)
                else bif (decide (s > (16))) then some ([.int .i64 (3)], noL)
                else bif (decide (n < (0))) then none
                else bif (decide (n > (65536))) then some ([.int .i64 (3)], noL)
                else some ([.int .i64 (0)], noL)
              else none
            else none
          else some ([.int .i64 (4)], noL)
        else some ([.int .i64 (4)], noL)
      else none
    else none
  else bif (k == (3)) then bif (k == k) then bif (s == s) then bif (b.data.toList == b.data.toList) then bif ((0) == n) then bif (k != (1)) then bif (k != (5)) then bif (decide (s < (1))) then some ([.int .i64 (3)], noL)
                else bif (decide (s > (16))) then some ([.int .i64 (3)], noL)
                else bif (decide (n < (0))) then none
                else bif (decide (n > (65536))) then some ([.int .i64 (3)], noL)
                else some ([.int .i64 (0)], noL)
              else none
            else none
          else some ([.int .i64 (4)], noL)
        else some ([.int .i64 (4)], noL)
      else none
    else none
  else bif (k == (4)) then bif (k == k) then bif (s == s) then bif ((⟨⟨[]⟩⟩ : ByteArray).data.toList == b.data.toList) then bif (n == n) then bif (k != (1)) then bif (k != (5)) then bif (decide (s < (1))) then some ([.int .i64 (3)], noL)
                else bif (decide (s > (16))) then some ([.int .i64 (3)], noL)
                else bif (decide (n < (0))) then some ([.int .i64 (3)], noL)
                else bif (decide (n > (65536))) then some ([.int .i64 (3)], noL)
                else some ([.int .i64 (0)], noL)
              else none
            else none
          else none
        else some ([.int .i64 (4)], noL)
      else none
    else none
  else some ([.int .i64 (8)], noL)
theorem op_q (k s : Int) (b : ByteArray) (n : Int) : op_t k s b n = some ([.int .i64 (opE k s b n)], noL) := by
  unfold op_t
  have hb : ((b.data.toList == (⟨⟨[]⟩⟩ : ByteArray).data.toList) = true ↔ b.data.toList = []) ∧ (((⟨⟨[]⟩⟩ : ByteArray).data.toList == b.data.toList) = true ↔ b.data.toList = []) := by
    generalize b.data.toList = l
    cases l <;> simp
  have hr : (b.data.toList == b.data.toList) = true := by simp
  unfold opE
  generalize b.data.toList = l at *
  have key : ∀ x y : Int, x = y → some ([Value.int .i64 x], noL) = some ([.int .i64 y], noL) := fun x y h => by rw [h]
  by_cases hl : l = []
  · subst hl
    simp only [not_true_eq_false, and_false, if_false]
    (repeat' (refine Go.Eng.both (fun h => ?_) (fun h => ?_)))
    all_goals first
      | (refine key _ _ ?_; (simp only [decide_eq_true_eq, decide_eq_false_iff_not, beq_iff_eq, beq_eq_false_iff_ne, bne_iff_ne, bne_eq_false_iff_eq, ne_eq, Bool.not_not, Bool.not_eq_true', Bool.not_eq_false', not_true_eq_false] at *); repeat' split
         all_goals omega)
      | (exfalso; (simp only [decide_eq_true_eq, decide_eq_false_iff_not, beq_iff_eq, beq_eq_false_iff_ne, bne_iff_ne, bne_eq_false_iff_eq, ne_eq, Bool.not_not, Bool.not_eq_true', Bool.not_eq_false', not_true_eq_false] at *) <;> omega)
      | (exfalso; simp_all; done)
  · have hb1 : (l == (⟨⟨[]⟩⟩ : ByteArray).data.toList) = false := by
      cases l with
      | nil => exact absurd rfl hl
      | cons a r => rfl
    have hb2 : ((⟨⟨[]⟩⟩ : ByteArray).data.toList == l) = false := by
      cases l with
      | nil => exact absurd rfl hl
      | cons a r => rfl
    simp only [hl, not_false_eq_true, and_true, hb1, hb2, hr, cond_true, cond_false]
    clear hb hb1 hb2 hr hl
    (repeat' (refine Go.Eng.both (fun h => ?_) (fun h => ?_)))
    all_goals first
      | (refine key _ _ ?_; (simp only [decide_eq_true_eq, decide_eq_false_iff_not, beq_iff_eq, beq_eq_false_iff_ne, bne_iff_ne, bne_eq_false_iff_eq, ne_eq, Bool.not_not, Bool.not_eq_true', Bool.not_eq_false', not_true_eq_false] at *); repeat' split
         all_goals omega)
      | (exfalso; (simp only [decide_eq_true_eq, decide_eq_false_iff_not, beq_iff_eq, beq_eq_false_iff_ne, bne_iff_ne, bne_eq_false_iff_eq, ne_eq, Bool.not_not, Bool.not_eq_true', Bool.not_eq_false', not_true_eq_false] at *) <;> omega)
theorem op_cF (l k : List Value) : op_c.F l k = CFn.F (P := Tryz.prog) [] op_f l k := rfl
theorem op_F (o : OpV) : op_c.F (opL o) [] = some ([.int .i64 (opE o.k o.s o.b o.n)], noL) := by
  rw [op_cF]
  exact CFn.flat (cs := []) (F := op_f) _ rfl (Eq.trans (b := op_t o.k o.s o.b o.n) (by kernel_rfl) (op_q ..))
def opeq_t (a c : OpV) : Option (List Value × List Value) :=
  bif (a.k == c.k) then bif (a.s == c.s) then bif (a.b.data.toList == c.b.data.toList) then bif (a.n == c.n) then some ([.bool true], noL)
        else some ([.bool false], noL)
      else some ([.bool false], noL)
    else some ([.bool false], noL)
  else some ([.bool false], noL)
theorem opeq_cF (l k : List Value) : opeq_c.F l k = CFn.F (P := Tryz.prog) [] opeq_f l k := rfl
theorem opeq_q (a c : OpV) : opeq_t a c = some ([.bool (sameO a c)], noL) := by
  unfold opeq_t sameO
  have e : ∀ x y : Int, (x == y) = decide (x = y) := fun _ _ => rfl
  simp only [e]
  cases decide (a.k = c.k) <;> cases decide (a.s = c.s) <;> cases (a.b.data.toList == c.b.data.toList) <;> cases decide (a.n = c.n) <;> rfl
theorem opeq_F (a c : OpV) : opeq_c.F (opL a ++ opL c) [] = some ([.bool (sameO a c)], noL) := by
  rw [opeq_cF]
  exact CFn.flat (cs := []) (F := opeq_f) _ rfl (Eq.trans (b := opeq_t a c) (by kernel_rfl) (opeq_q a c))
end Go.Proofs.YtfcjlgdpdomoeaaGreat.U
