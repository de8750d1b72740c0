/- HistoryChecks: the law. -/
import Derived.Test.YtokaedcpmiklhaaGreatUJ
set_option linter.unusedSimpArgs false
set_option linter.unusedVariables false
namespace Go.Proofs.YtokaedcpmiklhaaGreat.U
open Go Go.Eng
theorem OpsV.own {V : Value} {l : List OpV} (h : OpsV V l) : OpsV (lv (l.map opL)) l := by
  cases h with
  | zero => exact .row [] (by decide) (fun o ho => by cases ho)
  | row l h1 h2 => exact .row l h1 h2
theorem own_cF (l k : List Value) : own_c.F l k = CFn.F (P := Tryz.prog) [] own_f l k := by kernel_rfl
theorem own_F (s : Su) {V : Value} {l : List OpV} (hV : OpsV V l) (hn : l.length ≤ 1048576) : own_c.F (suL s) [V] = some (suL s, [lv (l.map opL)]) := by
  rw [own_cF]
  refine CFn.flat (cs := []) (F := own_f) _ rfl ?_
  refine Eq.trans (evK_e (lv []) rfl rfl) ?_
  have hc : lsev (.cat 4) [lv [], V] = some (lv (l.map opL)) := by
    simp only [lsev, hV.rows, lrows_lv]
    cases l with
    | nil => rfl
    | cons o r =>
      have h1 : Nat.ble (([] : List (List Value)).length + ((o :: r).map opL).length) 1048576 = true := by
        rw [List.length_map]
        exact Nat.ble_eq_true_of_le (by simpa using hn)
      have h2 : ((o :: r).map opL).all (fun r => Nat.beq r.length 4) = true := by
        rw [List.all_eq_true]
        intro x hx
        obtain ⟨y, _, rfl⟩ := List.mem_map.1 hx
        rfl
      simp only [List.map_cons] at h1 h2 ⊢
      rw [h1, h2]
      rfl
  refine Eq.trans (evK_e (lv (l.map opL)) hc rfl) ?_
  rfl
theorem awake_F : awake_c.F [] [] = some (noL, noL) := by kernel_rfl
theorem totAt_le {l : List OpV} (h : ∀ o ∈ l, o.b.size ≤ 140737488355328) : ∀ i, i ≤ l.length → totAt l i ≤ i * 140737488355328 := by
  intro i
  induction i with
  | zero => intro _; exact Nat.le_of_eq (by simp [totAt])
  | succ i ih =>
    intro hi
    have h1 := ih (by omega)
    have h2 := totAt_succ (getI (l := l) (i := i) (by omega))
    have h3 := h _ (List.getElem_mem (l := l) (n := i) (by omega))
    rw [h2]
    omega
theorem manyAt_tot {l : List OpV} (h : ∀ o ∈ l, o.b.size ≤ 140737488355328) (hl : l.length ≤ 400) : ∀ i, i ≤ l.length → manyAt l i = (totAt l i : Int) := by
  intro i
  induction i with
  | zero => intro _; simp [manyAt, totAt]
  | succ i ih =>
    intro hi
    have h1 := ih (by omega)
    have h2 := totAt_succ (getI (l := l) (i := i) (by omega))
    have h4 := totAt_le h (i + 1) hi
    rw [manyAt_succ (getI (by omega)), h1]
    unfold addW
    rw [wrap_in (by unfold i64R; omega), h2]
    rfl
theorem totAt_mono {l : List OpV} {i : Nat} (h : i ≤ l.length) : totAt l i ≤ totAt l l.length := by
  have key : ∀ d, i + d ≤ l.length → totAt l i ≤ totAt l (i + d) := by
    intro d
    induction d with
    | zero => intro _; exact Nat.le_refl _
    | succ d ih =>
      intro hd
      have h1 := ih (by omega)
      have h2 := totAt_succ (getI (l := l) (i := i + d) (by omega))
      rw [show i + (d + 1) = i + d + 1 by omega, h2]
      omega
  have := key (l.length - i) (by omega)
  rwa [show i + (l.length - i) = l.length by omega] at this
theorem short_of {l : List OpV} (hb : longB l = false) (h : ∀ o ∈ l, o.b.size ≤ 140737488355328) : l.length ≤ 450 ∧ (l.length ≤ 400 → ∀ i, i ≤ l.length → totAt l i ≤ 65536) ∧ (l.length ≤ 400 → manyAt l l.length ≤ 65536) := by
  unfold longB at hb
  simp only [Bool.or_eq_false_iff, Bool.and_eq_false_iff, decide_eq_false_iff_not] at hb
  obtain ⟨h1, h2⟩ := hb
  refine ⟨by omega, fun h4 i hi => ?_, fun h4 => ?_⟩
  · have h3 : manyAt l l.length ≤ 3000 := by
      rcases h1 with ⟨_, h1⟩ | h1
      · omega
      · omega
    rw [manyAt_tot h h4 l.length (Nat.le_refl _)] at h3
    have := totAt_mono hi
    omega
  · rcases h1 with ⟨_, h1⟩ | h1
    · omega
    · omega
theorem sameO_refl (o : OpV) : sameO o o = true := by simp [sameO]
theorem sameOps_refl : ∀ l : List OpV, sameOps l l = true
  | [] => rfl
  | o :: r => by
    show (sameO o o && sameOps r r) = true
    rw [sameO_refl, sameOps_refl r]
    rfl
theorem sameA_refl (s : Su) : sameA s s true = true := by simp [sameA]
noncomputable abbrev l1D : List (Ctr Tryz.prog) := [long_c, awake_c, own_c, hchk_c, rchk_c, hsame_c, rsame_c]
theorem law1_cF (l k : List Value) : law1_c.F l k = CFn.F (P := Tryz.prog) l1D law1_f l k := by kernel_rfl
def su64 (s : Su) : Prop := i64R s.x ∧ i64R s.y ∧ i64R s.d
/-- HistoryChecks answers true -/
theorem law1_F (s t : Su) {V1 V2 : Value} {l1 l2 : List OpV} (h1 : OpsV V1 l1) (h2 : OpsV V2 l2) (hs : su64 s) (z1 : ∀ o ∈ l1, o.b.size ≤ 140737488355328) (z2 : ∀ o ∈ l2, o.b.size ≤ 140737488355328) :
    law1_c.F (suL s ++ suL t) [V1, V2] = some ([.bool true], noL) := by
  rw [law1_cF]
  refine CFn.flat (cs := l1D) (F := law1_f) _ rfl ?_
  refine Eq.trans (evK_c [.bool (longB l1)] [] rfl (long_F s h1)) ?_
  refine Eq.trans (evK_t (longB l1) rfl) ?_
  cases hb1 : longB l1 with
  | true =>
    rw [cond_true]
    refine Eq.trans (evK_c [] [] rfl awake_F) ?_
    rfl
  | false =>
  rw [cond_false]
  refine Eq.trans (evK_c [.bool (longB l2)] [] rfl (long_F t h2)) ?_
  refine Eq.trans (evK_t (longB l2) rfl) ?_
  cases hb2 : longB l2 with
  | true =>
    rw [cond_true]
    refine Eq.trans (evK_c [] [] rfl awake_F) ?_
    rfl
  | false =>
  rw [cond_false]
  obtain ⟨n1, t1, m1⟩ := short_of hb1 z1
  obtain ⟨n2, t2, m2⟩ := short_of hb2 z2
  refine Eq.trans (evK_c (suL s) [lv (l1.map opL)] rfl (own_F s h1 (by omega))) ?_
  refine Eq.trans (evK_c (suL t) [lv (l2.map opL)] rfl (own_F t h2 (by omega))) ?_
  refine Eq.trans (evK_c [.int .i64 (chk s l1)] [] rfl (hchk_F s h1.own hs.1 hs.2.1 hs.2.2 t1)) ?_
  refine Eq.trans (evK_c [.int .i64 (chk s l1)] [] rfl (rchk_F s h1 m1)) ?_
  refine Eq.trans (evK_t true (by show some (Value.bool (chk s l1 == chk s l1)) = _; rw [beq_self_eq_true])) ?_
  rw [cond_true]
  refine Eq.trans (evK_c [.bool (sameA s t (sameOps l1 l2))] [] rfl (hsame_F s t h1.own h2.own)) ?_
  refine Eq.trans (evK_c [.bool (sameA s t (sameOps l1 l2))] [] rfl (rsame_F s t h1 h2)) ?_
  refine Eq.trans (evK_t true (by show some (Value.bool ((sameA s t (sameOps l1 l2) == sameA s t (sameOps l1 l2)) != false)) = _; rw [beq_self_eq_true]; rfl)) ?_
  rw [cond_true]
  refine Eq.trans (evK_c [.bool true] [] rfl (Eq.trans (hsame_F s s h1.own h1.own) (by rw [sameOps_refl, sameA_refl]))) ?_
  refine Eq.trans (evK_t true rfl) ?_
  rw [cond_true]
  refine Eq.trans (evK_c [.bool true] [] rfl (Eq.trans (rsame_F s s h1.own h1) (by rw [sameOps_refl, sameA_refl]))) ?_
  refine Eq.trans (evK_t true rfl) ?_
  rw [cond_true]
  refine Eq.trans (evK_c [.bool true] [] rfl (Eq.trans (rsame_F t t h2.own h2) (by rw [sameOps_refl, sameA_refl]))) ?_
  refine Eq.trans (evK_t true rfl) ?_
  rw [cond_true]
  refine Eq.trans (evK_c [] [] rfl awake_F) ?_
  rfl
end Go.Proofs.YtokaedcpmiklhaaGreat.U
