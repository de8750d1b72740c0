/- HistoryChecks: the arguments read. -/
import Derived.Test.YtokaedcpmiklhaaGreatUL
import Derived.Test.YtokaedcpmiklhaaGreatEngS4
set_option linter.unusedSimpArgs false
set_option linter.unusedVariables false
namespace Go.Proofs.YtokaedcpmiklhaaGreat.U
open Go Go.Eng Go.RowKit
def opK : List CT := [.i .i64, .i .i64, .s, .i .i64]
def scK : List CT := [.i .i64, .b, .i .i64, .b, .i .i64, .b, .i .i64, .i .i64, .i .i64, .i .i64, .i .i64, .l opK]
theorem i64_of {n : Int} (h : (Lit.int .i64 n).wf = true) : i64R n := by
  have h' : (decide (IntKind.i64.min ≤ n) && decide (n ≤ IntKind.i64.max)) = true := h
  have q := Bool.and_eq_true_iff.1 h'
  exact ⟨of_decide_eq_true q.1, of_decide_eq_true q.2⟩
theorem op_is {r : List Value} (hl : r.length = opK.length) (h : ∀ (j : Nat) (k : CT) (d : Value), opK[j]? = some k → r[j]? = some d → IsD k d) : ∃ o : OpV, r = opL o ∧ i64R o.k ∧ i64R o.s ∧ i64R o.n ∧ o.b.size ≤ reachBytes := by
  match r, hl with
  | [a, b, c, d], _ =>
    have h0 := h 0 _ a rfl rfl
    have h1 := h 1 _ b rfl rfl
    have h2 := h 2 _ c rfl rfl
    have h3 := h 3 _ d rfl rfl
    cases h0 with | i _ n0 w0 =>
    cases h1 with | i _ n1 w1 =>
    cases h2 with | s x w2 =>
    cases h3 with | i _ n3 w3 =>
    exact ⟨⟨n0, n1, x, n3⟩, rfl, i64_of w0, i64_of w1, i64_of w3, w2⟩
theorem ops_is {d : Value} (h : IsD (.l opK) d) : ∃ l : List OpV, OpsV d l ∧ ∀ o ∈ l, o.b.size ≤ reachBytes := by
  cases h with
  | n => exact ⟨[], .zero, fun o ho => by cases ho⟩
  | l _ rs h1 h2 h3 =>
    have key : ∀ rs : List (List Value), (∀ r ∈ rs, r.length = opK.length) → (∀ r ∈ rs, ∀ (j : Nat) (k : CT) (d : Value), opK[j]? = some k → r[j]? = some d → IsD k d) → ∃ l : List OpV, rs = l.map opL ∧ ∀ o ∈ l, i64R o.k ∧ i64R o.s ∧ i64R o.n ∧ o.b.size ≤ reachBytes := by
      intro rs
      induction rs with
      | nil => intro _ _; exact ⟨[], rfl, fun o ho => by cases ho⟩
      | cons r rs ih =>
        intro g1 g2
        obtain ⟨o, rfl, q⟩ := op_is (g1 r (by simp)) (g2 r (by simp))
        obtain ⟨l, rfl, ql⟩ := ih (fun r hr => g1 r (by simp [hr])) fun r hr => g2 r (by simp [hr])
        refine ⟨o :: l, rfl, fun p hp => ?_⟩
        rcases List.mem_cons.1 hp with rfl | hp
        · exact q
        · exact ql p hp
    obtain ⟨l, rfl, ql⟩ := key rs h2 h3
    rw [List.length_map] at h1
    have hm : maxLen ≤ 9223372036854775807 := by decide
    have hm2 : reachBytes ≤ 9223372036854775807 := by decide
    exact ⟨l, .row l (by omega) (fun o ho => by obtain ⟨a, b, c, d⟩ := ql o ho; exact ⟨a, b, c, by omega⟩), fun o ho => (ql o ho).2.2.2⟩
theorem sc_is {w : World} {cs ds : List Value} (h : Reads w scK cs ds) : ∃ (s : Su) (v V : Value) (l : List OpV), cs = suL s ++ [v] ∧ su64 s ∧ OpsV V l ∧ (∀ o ∈ l, o.b.size ≤ reachBytes) ∧ DenF (phiW w).fz v V := by
  have hl := h.len
  have hl2 := h.len2
  match cs, hl, ds, hl2 with
  | [c0, c1, c2, c3, c4, c5, c6, c7, c8, c9, c10, c11], _, [d0, d1, d2, d3, d4, d5, d6, d7, d8, d9, d10, d11], _ =>
    have sc : ∀ {v d : Value}, DenF (phiW w).fz v d → isOneV d = true → v = d := fun h1 h2 => @DenF.sc_eq noSymV _ _ _ h1 h2
    have t0 := h.typ 0 _ d0 rfl rfl; have t1 := h.typ 1 _ d1 rfl rfl; have t2 := h.typ 2 _ d2 rfl rfl; have t3 := h.typ 3 _ d3 rfl rfl
    have t4 := h.typ 4 _ d4 rfl rfl; have t5 := h.typ 5 _ d5 rfl rfl; have t6 := h.typ 6 _ d6 rfl rfl; have t7 := h.typ 7 _ d7 rfl rfl
    have t8 := h.typ 8 _ d8 rfl rfl; have t9 := h.typ 9 _ d9 rfl rfl; have t10 := h.typ 10 _ d10 rfl rfl; have t11 := h.typ 11 _ d11 rfl rfl
    have e0 := h.den 0 c0 d0 rfl rfl; have e1 := h.den 1 c1 d1 rfl rfl; have e2 := h.den 2 c2 d2 rfl rfl; have e3 := h.den 3 c3 d3 rfl rfl
    have e4 := h.den 4 c4 d4 rfl rfl; have e5 := h.den 5 c5 d5 rfl rfl; have e6 := h.den 6 c6 d6 rfl rfl; have e7 := h.den 7 c7 d7 rfl rfl
    have e8 := h.den 8 c8 d8 rfl rfl; have e9 := h.den 9 c9 d9 rfl rfl; have e10 := h.den 10 c10 d10 rfl rfl; have e11 := h.den 11 c11 d11 rfl rfl
    cases t0 with | i _ x w0 => cases t1 with | b fx => cases t2 with | i _ y w2 => cases t3 with | b fy => cases t4 with | i _ dd w4 => cases t5 with | b fd =>
    cases t6 with | i _ m _ => cases t7 with | i _ r _ => cases t8 with | i _ ns _ => cases t9 with | i _ nt _ => cases t10 with | i _ nq _ =>
    obtain rfl := sc e0 rfl; obtain rfl := sc e1 rfl; obtain rfl := sc e2 rfl; obtain rfl := sc e3 rfl; obtain rfl := sc e4 rfl; obtain rfl := sc e5 rfl
    obtain rfl := sc e6 rfl; obtain rfl := sc e7 rfl; obtain rfl := sc e8 rfl; obtain rfl := sc e9 rfl; obtain rfl := sc e10 rfl
    obtain ⟨l, q1, q2⟩ := ops_is t11
    exact ⟨⟨x, y, dd, m, r, ns, nt, nq, fx, fy, fd⟩, c11, d11, l, rfl, ⟨i64_of w0, i64_of w2, i64_of w4⟩, q1, q2, e11⟩
theorem law1_den {W : World} (s t : Su) {v1 v2 V1 V2 : Value} {l1 l2 : List OpV} (a1 : DenF (phiW W).fz v1 V1) (a2 : DenF (phiW W).fz v2 V2) (h1 : OpsV V1 l1) (h2 : OpsV V2 l2) (hs : su64 s) (z1 : ∀ o ∈ l1, o.b.size ≤ 140737488355328) (z2 : ∀ o ∈ l2, o.b.size ≤ 140737488355328) :
    Calls Tryz.prog 3 ⟨[.agg ⟨suL s ++ [v1]⟩, .agg ⟨suL t ++ [v2]⟩]⟩ W fun e w' => e = .returned (.bool true) ∧ Below W.heap.size W w' := by
  have one : (suL s ++ suL t).all isOneV = true := rfl
  have hb : bL law1_c.pre (suL s ++ suL t) [V1, V2] = true := rfl
  refine (law1_c.enter rfl hb (law1_F s t h1 h2 hs z1 z2) one (W := W) (args := [.agg ⟨suL s ++ [v1]⟩, .agg ⟨suL t ++ [v2]⟩]) ?_).mono ?_
  · refine @VRL.cons (symL _ _ one) _ _ _ _ _ (script_rel (n := 0) (m := 0) s (fun i x hx => ?_) a1) (@VRL.cons (symL _ _ one) _ _ _ _ _ (script_rel (n := 11) (m := 1) t (fun i x hx => ?_) a2) (@VRL.nil (symL _ _ one) _))
    · refine nthV_at ?_
      rw [Nat.zero_add, List.getElem?_append_left (List.getElem?_eq_some_iff.1 hx).1]
      exact hx
    · refine nthV_at ?_
      show (suL s ++ suL t)[(suL s).length + i]? = some x
      rw [List.getElem?_append_right (Nat.le_add_right _ _), Nat.add_sub_cancel_left]
      exact hx
  · rintro e w' ⟨v, rfl, hS, hbel⟩
    refine ⟨?_, hbel⟩
    obtain ⟨φ', hv⟩ := hS (symL [.bool true] [] rfl) symL_agrees
    have : v = (symL [.bool true] [] rfl).val 0 := by
      cases hv with
      | sym _ _ _ _ h => exact h
    rw [this]
    rfl
end Go.Proofs.YtokaedcpmiklhaaGreat.U
