/- HistoryChecks: the law's call at whatever world. -/
import Derived.Test.YtokaedcpmiklhaaGreatUK
import Derived.Test.YtokaedcpmiklhaaGreatEngS4
set_option linter.unusedSimpArgs false
set_option linter.unusedVariables false
namespace Go.Proofs.YtokaedcpmiklhaaGreat.U
open Go Go.Eng Go.RowKit
/-- a list of ops that lies in a world: the value, its deep value -/
inductive ArgOps (W : World) : Value → Value → List OpV → Prop where
  | zero : ArgOps W (.slice none 0 0) (.slice none 0 0) []
  | row (blk off cap : Nat) (c : Array Value) (e : TypeId) (fz : Nat × Nat) (l : List OpV) : l.length ≤ cap → off + cap * 4 ≤ c.size → W.heap[blk]? = some (.cells c e fz) →
      (∀ i o, l[i]? = some o → ∀ j v, (opL o)[j]? = some v → c[off + i * 4 + j]? = some v) → ArgOps W (.slice (some ⟨blk, off, none⟩) l.length cap) (lv (l.map opL)) l
theorem opL_one (o : OpV) {j : Nat} {v : Value} (h : (opL o)[j]? = some v) : isOneV v = true := by
  have := List.mem_of_getElem? h
  simp only [opL, List.mem_cons, List.not_mem_nil, or_false] at this
  rcases this with rfl | rfl | rfl | rfl <;> rfl
theorem ArgOps.den {W : World} {v V : Value} {l : List OpV} (h : ArgOps W v V l) : DenF (phiW W).fz v V := by
  cases h with
  | zero => exact .sc _ rfl
  | row blk off cap c e fz l h1 h2 h3 h4 =>
    have hR : Eng.RowsIn (phiW W).fz c off 4 (l.map opL) := by
      refine ⟨fun i r hr => ?_, fun i r j d hr hd => ?_⟩
      · rw [List.getElem?_map, Option.map_eq_some_iff] at hr
        obtain ⟨o, _, rfl⟩ := hr
        rfl
      · rw [List.getElem?_map, Option.map_eq_some_iff] at hr
        obtain ⟨o, ho, rfl⟩ := hr
        exact ⟨d, h4 i o ho j d hd, .sc d (opL_one o hd)⟩
    have := @Eng.RowsIn.den noSymV (phiW W).fz blk off 4 cap c e fz (l.map opL) (phiW_fz h3) (by rw [List.length_map]; exact h1) (by decide) h2 hR
    rwa [List.length_map] at this
theorem ArgOps.ops {W : World} {v V : Value} {l : List OpV} (h : ArgOps W v V l) (h1 : l.length ≤ 9223372036854775807) (h2 : ∀ o ∈ l, i64R o.k ∧ i64R o.s ∧ i64R o.n ∧ o.b.size ≤ 9223372036854775807) : OpsV V l := by
  cases h with
  | zero => exact .zero
  | row => exact .row l h1 h2
theorem suL_all (s : Su) : (suL s).all isOneV = true := rfl
/-- a script told by symbols -/
theorem script_rel {S : SymV} {φ : Phi} (s : Su) {n m : Nat} {v : Value} (hv : ∀ i x, (suL s)[i]? = some x → S.val (n + i) = x) (hl : DenF φ.fz v (S.lst m)) : @VR S φ (ag (svs n 11 ++ [fv m])) (.agg ⟨suL s ++ [v]⟩) := by
  have h1 : ∀ (k n : Nat) (r : List Value), r.length = k → (∀ i x, r[i]? = some x → S.val (n + i) = x) → @VRL S φ (svs n k ++ [fv m]) (r ++ [v]) := by
    intro k
    induction k with
    | zero =>
      intro n r hr _
      cases r with
      | nil => exact @VRL.cons S _ _ _ _ _ (@VR.lsym S _ _ _ _ hl) (@VRL.nil S _)
      | cons => simp at hr
    | succ k ih =>
      intro n r hr h
      cases r with
      | nil => simp at hr
      | cons a r =>
        refine @VRL.cons S _ _ _ _ _ (@VR.sym S _ _ _ _ _ ?_) (ih (n + 1) r (by simpa using hr) fun i x hx => ?_)
        · exact (h 0 a (by simp)).symm
        · rw [show n + 1 + i = n + (i + 1) by omega]
          exact h (i + 1) x (by simpa using hx)
  exact @VR.agg S _ _ _ (h1 11 n (suL s) rfl hv)
theorem law1_at {W : World} (s t : Su) {v1 v2 V1 V2 : Value} {l1 l2 : List OpV} (a1 : ArgOps W v1 V1 l1) (a2 : ArgOps W v2 V2 l2) (h1 : OpsV V1 l1) (h2 : OpsV V2 l2) (hs : su64 s) (z1 : ∀ o ∈ l1, o.b.size ≤ 140737488355328) (z2 : ∀ o ∈ l2, o.b.size ≤ 140737488355328) :
    Calls Tryz.prog 3 ⟨[.agg ⟨suL s ++ [v1]⟩, .agg ⟨suL t ++ [v2]⟩]⟩ W fun e w' => e = .returned (.bool true) ∧ Below W.heap.size W w' := by
  have one : (suL s ++ suL t).all isOneV = true := rfl
  have hb : bL law1_c.pre (suL s ++ suL t) [V1, V2] = true := rfl
  refine (law1_c.enter rfl hb (law1_F s t h1 h2 hs z1 z2) one (W := W) (args := [.agg ⟨suL s ++ [v1]⟩, .agg ⟨suL t ++ [v2]⟩]) ?_).mono ?_
  · refine @VRL.cons (symL _ _ one) _ _ _ _ _ (script_rel (n := 0) (m := 0) s (fun i x hx => ?_) a1.den) (@VRL.cons (symL _ _ one) _ _ _ _ _ (script_rel (n := 11) (m := 1) t (fun i x hx => ?_) a2.den) (@VRL.nil (symL _ _ one) _))
    · refine nthV_at ?_
      rw [Nat.zero_add, List.getElem?_append_left (List.getElem?_eq_some_iff.1 hx).1]
      exact hx
    · refine nthV_at ?_
      show (suL s ++ suL t)[(suL s).length + i]? = some x
      rw [List.getElem?_append_right (Nat.le_add_right _ _), Nat.add_sub_cancel_left]
      exact hx
  · rintro e w' ⟨v, rfl, hS, hbel⟩
    refine ⟨?_, hbel⟩
    obtain ⟨φ', hv⟩ := hS (symL [.bool true] [] rfl) symL_agrees
    have : v = (symL [.bool true] [] rfl).val 0 := by
      cases hv with
      | sym _ _ _ _ h => exact h
    rw [this]
    rfl
end Go.Proofs.YtokaedcpmiklhaaGreat.U
