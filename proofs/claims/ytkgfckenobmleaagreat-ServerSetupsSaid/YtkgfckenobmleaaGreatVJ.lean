/- ServerSetups: its call, at whatever world. -/
import Derived.Test.YtkgfckenobmleaaGreatVI
import Derived.Test.YtkgfckenobmleaaGreatEngS4
set_option linter.unusedSimpArgs false
set_option linter.unusedVariables false
namespace Go.Proofs.YtkgfckenobmleaaGreat.U
open Go Go.Eng Go.RowKit
def suK : List CT := [.i .i64, .b, .i .i64, .b, .i .i64, .b, .i .i64, .i .i64, .i .i64, .i .i64, .i .i64]
theorem i64_of {n : Int} (h : (Lit.int .i64 n).wf = true) : i64R n := by
  have h' : (decide (IntKind.i64.min ≤ n) && decide (n ≤ IntKind.i64.max)) = true := h
  have q := Bool.and_eq_true_iff.1 h'
  exact ⟨of_decide_eq_true q.1, of_decide_eq_true q.2⟩
theorem su_is {w : World} {cs ds : List Value} (h : Reads w suK cs ds) : ∃ s : Su, cs = suL s ∧ su64 s := by
  have hl := h.len
  have hl2 := h.len2
  match cs, hl, ds, hl2 with
  | [c0, c1, c2, c3, c4, c5, c6, c7, c8, c9, c10], _, [d0, d1, d2, d3, d4, d5, d6, d7, d8, d9, d10], _ =>
    have sc : ∀ {v d : Value}, DenF (phiW w).fz v d → isOneV d = true → v = d := fun h1 h2 => @DenF.sc_eq noSymV _ _ _ h1 h2
    have t0 := h.typ 0 _ d0 rfl rfl; have t1 := h.typ 1 _ d1 rfl rfl; have t2 := h.typ 2 _ d2 rfl rfl; have t3 := h.typ 3 _ d3 rfl rfl
    have t4 := h.typ 4 _ d4 rfl rfl; have t5 := h.typ 5 _ d5 rfl rfl; have t6 := h.typ 6 _ d6 rfl rfl; have t7 := h.typ 7 _ d7 rfl rfl
    have t8 := h.typ 8 _ d8 rfl rfl; have t9 := h.typ 9 _ d9 rfl rfl; have t10 := h.typ 10 _ d10 rfl rfl
    have e0 := h.den 0 c0 d0 rfl rfl; have e1 := h.den 1 c1 d1 rfl rfl; have e2 := h.den 2 c2 d2 rfl rfl; have e3 := h.den 3 c3 d3 rfl rfl
    have e4 := h.den 4 c4 d4 rfl rfl; have e5 := h.den 5 c5 d5 rfl rfl; have e6 := h.den 6 c6 d6 rfl rfl; have e7 := h.den 7 c7 d7 rfl rfl
    have e8 := h.den 8 c8 d8 rfl rfl; have e9 := h.den 9 c9 d9 rfl rfl; have e10 := h.den 10 c10 d10 rfl rfl
    cases t0 with | i _ x w0 => cases t1 with | b fx => cases t2 with | i _ y w2 => cases t3 with | b fy => cases t4 with | i _ dd w4 => cases t5 with | b fd =>
    cases t6 with | i _ m w6 => cases t7 with | i _ r w7 => cases t8 with | i _ ns w8 => cases t9 with | i _ nt w9 => cases t10 with | i _ nq w10 =>
    refine ⟨⟨x, y, dd, m, r, ns, nt, nq, fx, fy, fd⟩, ?_, i64_of w0, i64_of w2, i64_of w4⟩
    rw [sc e0 rfl, sc e1 rfl, sc e2 rfl, sc e3 rfl, sc e4 rfl, sc e5 rfl, sc e6 rfl, sc e7 rfl, sc e8 rfl, sc e9 rfl, sc e10 rfl]
    rfl
theorem suL_all (s : Su) : (suL s).all isOneV = true := rfl
theorem su_rel {S : SymV} {φ : Phi} (s : Su) (hv : ∀ i x, (suL s)[i]? = some x → S.val i = x) : @VR S φ (ag (svs 0 11)) (.agg ⟨suL s⟩) := by
  have h1 : ∀ (k n : Nat) (r : List Value), r.length = k → (∀ i x, r[i]? = some x → S.val (n + i) = x) → @VRL S φ (svs n k) r := by
    intro k
    induction k with
    | zero =>
      intro n r hr _
      cases r with
      | nil => exact @VRL.nil S _
      | cons => simp at hr
    | succ k ih =>
      intro n r hr h
      cases r with
      | nil => simp at hr
      | cons a r =>
        refine @VRL.cons S _ _ _ _ _ (@VR.sym S _ _ _ _ _ ?_) (ih (n + 1) r (by simpa using hr) fun i x hx => ?_)
        · have := h 0 a rfl
          exact Eq.symm (by simpa using this)
        · have := h (i + 1) x (by simpa using hx)
          rw [show n + 1 + i = n + (i + 1) by omega]
          exact this
  exact @VR.agg S _ _ _ (h1 11 0 (suL s) rfl (fun i x hx => by rw [Nat.zero_add]; exact hv i x hx))
theorem law_call {W : World} (s : Su) (hs : su64 s) : Calls Tryz.prog 3 ⟨[.agg ⟨suL s⟩]⟩ W fun e w' => e = .returned (.bool true) ∧ Below W.heap.size W w' := by
  have fin : ∀ (c : Ctr Tryz.prog), c.g = 3 → c.pan = false → c.pre.mem = [] → c.pre.vs = [ag (svs 0 11)] → c.post.vs = [sv 0] → bL c.pre (suL s) [] = true → c.F (suL s) [] = some ([.bool true], []) → Calls Tryz.prog 3 ⟨[.agg ⟨suL s⟩]⟩ W fun e w' => e = .returned (.bool true) ∧ Below W.heap.size W w' := by
    intro c hg hpan hmem hpre hpost hb hF
    rw [← hg]
    refine (c.enter hpan hmem hb hF (suL_all s) (W := W) (args := [.agg ⟨suL s⟩]) ?_).mono ?_
    · rw [hpre]
      exact @VRL.cons (symL _ _ _) _ _ _ _ _ (su_rel s (fun i x hx => nthV_at hx)) (@VRL.nil (symL _ _ _) _)
    · rintro e w' ⟨v, rfl, hS, hbel⟩
      refine ⟨?_, hbel⟩
      obtain ⟨φ', hv⟩ := hS (symL [.bool true] [] rfl) symL_agrees
      rw [hpost] at hv
      have : v = (symL [.bool true] [] rfl).val 0 := by
        cases hv with
        | sym _ _ _ _ h => exact h
      rw [this]
      rfl
  by_cases hc : ckSv s = 0
  · exact fin lawv_c rfl rfl rfl rfl rfl rfl (lawv_F s hs hc)
  · exact fin lawi_c rfl rfl rfl rfl rfl rfl (lawi_F s hs hc)
end Go.Proofs.YtkgfckenobmleaaGreat.U
