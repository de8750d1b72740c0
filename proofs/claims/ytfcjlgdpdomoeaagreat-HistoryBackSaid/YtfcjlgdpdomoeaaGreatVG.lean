/- HistoryBack: its call, at whatever world. -/
import Derived.Test.YtfcjlgdpdomoeaaGreatVF
set_option linter.unusedSimpArgs false
set_option linter.unusedVariables false
namespace Go.Proofs.YtfcjlgdpdomoeaaGreat.U
open Go Go.Eng Go.RowKit
theorem i64_of {n : Int} (h : (Lit.int .i64 n).wf = true) : i64R n := by
  have h' : (decide (IntKind.i64.min ≤ n) && decide (n ≤ IntKind.i64.max)) = true := h
  have q := Bool.and_eq_true_iff.1 h'
  exact ⟨of_decide_eq_true q.1, of_decide_eq_true q.2⟩
theorem ints_is {w : World} {v : Value} {ds : List Value} (h : Reads w [.l [.i .i64]] [v] ds) : ∃ (V : Value) (c : List Int), IV V c ∧ (∀ x ∈ c, i64R x) ∧ DenF (phiW w).fz v V := by
  have hl := h.len2
  match ds, hl with
  | [d], _ =>
    have t := h.typ 0 _ d rfl rfl
    have e := h.den 0 v d rfl rfl
    refine ⟨d, ?_⟩
    cases t with
    | n => exact ⟨[], rfl, fun x hx => (List.not_mem_nil hx).elim, e⟩
    | l _ rs h1 h2 h3 =>
      have key : ∀ rs : List (List Value), (∀ r ∈ rs, r.length = [CT.i .i64].length) → (∀ r ∈ rs, ∀ (j : Nat) (k : CT) (d : Value), [CT.i .i64][j]? = some k → r[j]? = some d → IsD k d) → ∃ c : List Int, (rs = c.map fun n => [.int .i64 n]) ∧ ∀ x ∈ c, i64R x := by
        intro rs
        induction rs with
        | nil => intro _ _; exact ⟨[], rfl, fun x hx => (List.not_mem_nil hx).elim⟩
        | cons r rs ih =>
          intro g1 g2
          obtain ⟨c, hc, hc2⟩ := ih (fun r hr => g1 r (List.mem_cons_of_mem _ hr)) (fun r hr => g2 r (List.mem_cons_of_mem _ hr))
          have hr := g1 r (List.mem_cons_self ..)
          match r, hr with
          | [a], _ =>
            have hd := g2 [a] (List.mem_cons_self ..) 0 _ a rfl rfl
            cases hd with
            | i _ n wf =>
              refine ⟨n :: c, by rw [hc]; rfl, fun x hx => ?_⟩
              rcases List.mem_cons.1 hx with rfl | hx
              · exact i64_of wf
              · exact hc2 x hx
      obtain ⟨c, rfl, hc2⟩ := key rs h2 h3
      exact ⟨c, lrows_lv _, hc2, e⟩
theorem law2_call {W : World} (a q cut m : Int) {v V : Value} {c : List Int} (ha : (Lit.int .i64 a).wf = true) (hq : (Lit.int .i64 q).wf = true) (dn : DenF (phiW W).fz v V) (hC : IV V c) (hc64 : ∀ x ∈ c, i64R x) (hcut : (Lit.int .i64 cut).wf = true) (_ : (Lit.int .u8 m).wf = true) :
    Calls Tryz.prog 4 ⟨[.int .i64 a, .int .i64 q, v, .int .i64 cut, .int .u8 m]⟩ W fun e w' => e = .returned (.bool true) ∧ Below W.heap.size W w' := by
  have one : [Value.int .i64 a, .int .i64 q, .int .i64 cut, .int .u8 m].all isOneV = true := rfl
  have hb : bL law2_c.pre [.int .i64 a, .int .i64 q, .int .i64 cut, .int .u8 m] [V] = true := rfl
  refine (law2_c.enter rfl rfl hb (law2_F (i64_of ha) (i64_of hq) (i64_of hcut) hC hc64) one (W := W) (args := [.int .i64 a, .int .i64 q, v, .int .i64 cut, .int .u8 m]) ?_).mono ?_
  · exact @VRL.cons (symL _ _ one) _ _ _ _ _ (@VR.sym (symL _ _ one) _ _ _ _ _ rfl) (@VRL.cons (symL _ _ one) _ _ _ _ _ (@VR.sym (symL _ _ one) _ _ _ _ _ rfl) (@VRL.cons (symL _ _ one) _ _ _ _ _ (@VR.lsym (symL _ _ one) _ _ _ _ dn) (@VRL.cons (symL _ _ one) _ _ _ _ _ (@VR.sym (symL _ _ one) _ _ _ _ _ rfl) (@VRL.cons (symL _ _ one) _ _ _ _ _ (@VR.sym (symL _ _ one) _ _ _ _ _ rfl) (@VRL.nil (symL _ _ one) _)))))
  · rintro e w' ⟨v, rfl, hS, hbel⟩
    refine ⟨?_, hbel⟩
    obtain ⟨φ', hv⟩ := hS (symL [.bool true] [] rfl) symL_agrees
    have : v = (symL [.bool true] [] rfl).val 0 := by
      cases hv with
      | sym _ _ _ _ h => exact h
    rw [this]
    rfl
end Go.Proofs.YtfcjlgdpdomoeaaGreat.U
