/- HistoryBytes, HistoryFragments: the calls at whatever world. -/
import Derived.Test.YtokaedcpmiklhaaGreatUV
import Derived.Test.YtokaedcpmiklhaaGreatUM
import Derived.Test.YtokaedcpmiklhaaGreatEngS4
set_option linter.unusedSimpArgs false
set_option linter.unusedVariables false
namespace Go.Proofs.YtokaedcpmiklhaaGreat.U
open Go Go.Eng Go.RowKit
theorem ints_is {w : World} {v : Value} {ds : List Value} (h : Reads w [.l [.i .i64]] [v] ds) : ∃ (V : Value) (c : List Int), IV V c ∧ c.length ≤ 9223372036854775807 ∧ DenF (phiW w).fz v V := by
  have hl := h.len2
  match ds, hl with
  | [d], _ =>
    have t := h.typ 0 _ d rfl rfl
    have e := h.den 0 v d rfl rfl
    refine ⟨d, ?_⟩
    cases t with
    | n => exact ⟨[], rfl, by decide, e⟩
    | l _ rs h1 h2 h3 =>
      have key : ∀ rs : List (List Value), (∀ r ∈ rs, r.length = [CT.i .i64].length) → (∀ r ∈ rs, ∀ (j : Nat) (k : CT) (d : Value), [CT.i .i64][j]? = some k → r[j]? = some d → IsD k d) → ∃ c : List Int, rs = c.map fun n => [.int .i64 n] := by
        intro rs
        induction rs with
        | nil => intro _ _; exact ⟨[], rfl⟩
        | cons r rs ih =>
          intro g1 g2
          obtain ⟨c, rfl⟩ := ih (fun r hr => g1 r (by simp [hr])) fun r hr => g2 r (by simp [hr])
          have hr := g1 r (by simp)
          match r, hr, g2 r (by simp) with
          | [a], _, g =>
            have := g 0 _ a rfl rfl
            cases this with
            | i _ n _ => exact ⟨n :: c, rfl⟩
      obtain ⟨c, rfl⟩ := key rs h2 h3
      rw [List.length_map] at h1
      have hm : maxLen ≤ 9223372036854775807 := by decide
      exact ⟨c, IV.lv c, by omega, e⟩
theorem law3_den {W : World} (s : Su) {v1 V1 : Value} {l1 : List OpV} (a1 : DenF (phiW W).fz v1 V1) (h1 : OpsV V1 l1) (hs : su64 s) (z1 : ∀ o ∈ l1, o.b.size ≤ 140737488355328) :
    Calls Tryz.prog 5 ⟨[.agg ⟨suL s ++ [v1]⟩]⟩ W fun e w' => e = .returned (.bool true) ∧ Below W.heap.size W w' := by
  have one : (suL s).all isOneV = true := rfl
  have hb : bL law3_c.pre (suL s) [V1] = true := rfl
  refine (law3_c.enter rfl hb (law3_F s h1 hs z1) one (W := W) (args := [.agg ⟨suL s ++ [v1]⟩]) ?_).mono ?_
  · refine @VRL.cons (symL _ _ one) _ _ _ _ _ (script_rel (n := 0) (m := 0) s (fun i x hx => ?_) a1) (@VRL.nil (symL _ _ one) _)
    refine nthV_at ?_
    rw [Nat.zero_add]
    exact hx
  · rintro e w' ⟨v, rfl, hS, hbel⟩
    refine ⟨?_, hbel⟩
    obtain ⟨φ', hv⟩ := hS (symL [.bool true] [] rfl) symL_agrees
    have : v = (symL [.bool true] [] rfl).val 0 := by
      cases hv with
      | sym _ _ _ _ h => exact h
    rw [this]
    rfl
theorem law2_den {W : World} (s : Su) {v1 vc V1 VC : Value} {l1 : List OpV} {c : List Int} (a1 : DenF (phiW W).fz v1 V1) (ac : DenF (phiW W).fz vc VC) (h1 : OpsV V1 l1) (hC : IV VC c) (hs : su64 s) (z1 : ∀ o ∈ l1, o.b.size ≤ 140737488355328) (hcl : c.length ≤ 9223372036854775807) :
    Calls Tryz.prog 4 ⟨[.agg ⟨suL s ++ [v1]⟩, vc]⟩ W fun e w' => e = .returned (.bool true) ∧ Below W.heap.size W w' := by
  have one : (suL s).all isOneV = true := rfl
  have hb : bL law2_c.pre (suL s) [V1, VC] = true := rfl
  refine (law2_c.enter rfl hb (law2_F s h1 hC hcl hs z1) one (W := W) (args := [.agg ⟨suL s ++ [v1]⟩, vc]) ?_).mono ?_
  · refine @VRL.cons (symL _ _ one) _ _ _ _ _ (script_rel (n := 0) (m := 0) s (fun i x hx => ?_) a1) (@VRL.cons (symL _ _ one) _ _ _ _ _ (@VR.lsym (symL _ _ one) _ _ _ _ ac) (@VRL.nil (symL _ _ one) _))
    refine nthV_at ?_
    rw [Nat.zero_add]
    exact hx
  · rintro e w' ⟨v, rfl, hS, hbel⟩
    refine ⟨?_, hbel⟩
    obtain ⟨φ', hv⟩ := hS (symL [.bool true] [] rfl) symL_agrees
    have : v = (symL [.bool true] [] rfl).val 0 := by
      cases hv with
      | sym _ _ _ _ h => exact h
    rw [this]
    rfl
end Go.Proofs.YtokaedcpmiklhaaGreat.U
