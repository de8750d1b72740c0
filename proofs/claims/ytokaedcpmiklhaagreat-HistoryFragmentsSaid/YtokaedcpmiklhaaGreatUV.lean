/- HistoryFragments: the law. -/
import Derived.Test.YtokaedcpmiklhaaGreatUT
set_option linter.unusedSimpArgs false
set_option linter.unusedVariables false
namespace Go.Proofs.YtokaedcpmiklhaaGreat.U
open Go Go.Eng
def okO (o : OpV) : Prop := i64R o.k ∧ i64R o.s ∧ i64R o.n ∧ o.b.size ≤ 9223372036854775807
theorem i64R_0 : i64R 0 := ⟨by decide, by decide⟩
theorem pcs_ok (c : List Int) {k s : Int} (hk : i64R k) (hs : i64R s) : ∀ (f n : Nat) (t : List UInt8), t.length ≤ 9223372036854775807 → ∀ o ∈ (pcs c k s f n t).1, okO o := by
  intro f
  induction f with
  | zero => intro n t _ o ho; cases ho
  | succ f ih =>
    intro n t ht o ho
    unfold pcs at ho
    split at ho
    · cases ho
    · rcases List.mem_cons.1 ho with rfl | ho
      · refine ⟨hk, hs, i64R_0, ?_⟩
        show (t.take _).length ≤ _
        rw [List.length_take]
        omega
      · exact ih _ _ (by rw [List.length_drop]; omega) o ho
theorem fragL_ok (c : List Int) : ∀ (l : List OpV) (n : Nat), (∀ o ∈ l, okO o) → ∀ o ∈ fragL c n l, okO o
  | [], _, _, o, h => by cases h
  | p :: r, n, hl, o, h => by
    rw [fragL, List.mem_append] at h
    rcases h with h | h
    · unfold frag1 at h
      split at h
      · simp at h
        rw [h]
        exact hl p (by simp)
      · obtain ⟨q1, q2, _, q4⟩ := hl p (by simp)
        exact pcs_ok c q1 q2 _ _ _ q4 o h
    · exact fragL_ok c r _ (fun q hq => hl q (by simp [hq])) o h
theorem OpsV.oks {V : Value} {l : List OpV} (h : OpsV V l) : ∀ o ∈ l, okO o := by
  cases h with
  | zero => intro o ho; cases ho
  | row l _ h2 => exact h2
theorem OpsV.outV {l : List OpV} (h1 : l.length ≤ 9223372036854775807) (h2 : ∀ o ∈ l, okO o) : OpsV (outV l) l := by
  cases l with
  | nil => exact .zero
  | cons o r => exact .row (o :: r) h1 h2
theorem flat_outV (l : List OpV) : flatV (outV l) = true := by
  cases l with
  | nil => rfl
  | cons o r =>
    show (match aggs ((o :: r).map opL |>.map fun r => Value.agg ⟨r⟩) with
      | some rs => rs.all fun r => r.all isOneV
      | none => false) = true
    rw [aggs_map]
    simp only [List.all_eq_true]
    intro x hx
    obtain ⟨y, _, rfl⟩ := List.mem_map.1 hx
    intro v hv
    simp only [opL, List.mem_cons, List.not_mem_nil, or_false] at hv
    rcases hv with rfl | rfl | rfl | rfl <;> rfl
def zeroSu : Su := ⟨0, 0, 0, 0, 0, 0, 0, 0, false, false, false⟩
theorem zeroSu_is : suL zeroSu = zeroL := rfl
/-- what Fragment answers, as a script and an error -/
theorem fragR_is (s : Su) {V : Value} {l : List OpV} (hV : OpsV V l) (c : List Int) : ∃ (s' : Su) (e : Int) (L : List OpV), fragR s l c = (suL s' ++ [.int .i64 e], [outV L]) ∧ OpsV (outV L) L := by
  unfold fragR
  split
  · split
    · exact ⟨zeroSu, 3, [], rfl, .zero⟩
    · unfold finR
      split
      · exact ⟨zeroSu, 6, [], rfl, .zero⟩
      · rename_i h
        exact ⟨s, 0, _, rfl, OpsV.outV (by omega) (fragL_ok c l 0 hV.oks)⟩
  · exact ⟨zeroSu, chk s l, [], rfl, .zero⟩
theorem hfragF_F (s : Su) {VO VC : Value} {l : List OpV} (hV : OpsV VO l) {c : List Int} (hC : IV VC c) (hcl : c.length ≤ 1000000) (hs : su64 s) (htot : l.length ≤ 400 → ∀ i, i ≤ l.length → totAt l i ≤ 65536) {s' : Su} {e : Int} {L : List OpV} (hr : fragR s l c = (suL s' ++ [.int .i64 e], [outV L])) :
    hfragF_c.F (suL s) [VO, VC] = some (suL s' ++ [.int .i64 e], [outV L]) := by
  show flatG (hfrag_c.F (suL s) [VO, VC]) = _
  rw [hfrag_F s hV hC hcl hs htot, hr]
  exact flatG_is (by simp [flat_outV])
theorem rfragF_F (s : Su) {VO VC : Value} {l : List OpV} (hV : OpsV VO l) {c : List Int} (hC : IV VC c) (hcl : c.length ≤ 1000000) (hm : l.length ≤ 400 → manyAt l l.length ≤ 65536) (htot : l.length ≤ 400 → ∀ i, i ≤ l.length → totAt l i ≤ 65536) {s' : Su} {e : Int} {L : List OpV} (hr : fragR s l c = (suL s' ++ [.int .i64 e], [outV L])) :
    rfragF_c.F (suL s) [VO, VC] = some (suL s' ++ [.int .i64 e], [outV L]) := by
  show flatG (rfrag_c.F (suL s) [VO, VC]) = _
  rw [rfrag_F s hV hC hcl hm htot, hr]
  exact flatG_is (by simp [flat_outV])
/-- the copy of a list of integers -/
theorem oints_cF (l k : List Value) : oints_c.F l k = CFn.F (P := Tryz.prog) [] oints_f l k := by kernel_rfl
def intsL (c : List Int) : Value := Eng.lv (c.map fun n => [.int .i64 n])
theorem IV.lv (c : List Int) : IV (intsL c) c := lrows_lv _
theorem oints_F {VC : Value} {c : List Int} (hC : IV VC c) (hn : c.length ≤ 1048576) : oints_c.F noL [VC] = some (noL, [intsL c]) := by
  rw [oints_cF]
  refine CFn.flat (cs := []) (F := oints_f) _ rfl ?_
  refine Eq.trans (evK_e (lv []) rfl rfl) ?_
  have hC' : lrows VC = some (c.map fun n => [.int .i64 n]) := hC
  have hc : lsev (.cat 1) [lv [], VC] = some (intsL c) := by
    simp only [lsev, hC', lrows_lv]
    cases c with
    | nil => rfl
    | cons o r =>
      have h1 : Nat.ble (([] : List (List Value)).length + ((o :: r).map fun n => [Value.int .i64 n]).length) 1048576 = true := by
        rw [List.length_map]
        exact Nat.ble_eq_true_of_le (by simpa using hn)
      have h2 : ((o :: r).map fun n => [Value.int .i64 n]).all (fun r => Nat.beq r.length 1) = true := by
        rw [List.all_eq_true]
        intro x hx
        obtain ⟨y, _, rfl⟩ := List.mem_map.1 hx
        rfl
      simp only [List.map_cons] at h1 h2 ⊢
      rw [h1, h2]
      rfl
  refine Eq.trans (evK_e (intsL c) hc rfl) ?_
  rfl
theorem sints_1 {V1 V2 : Value} {c : List Int} (h1 : IV V1 c) (h2 : IV V2 c) (hcl : c.length ≤ 9223372036854775807) : ∀ (k i : Nat), i ≤ c.length → c.length - i < k → runT [] sints_f k 1 [.int .i64 (i : Int)] [V1, V2] = some ([.bool true], noL) := by
  intro k
  induction k with
  | zero => intro i _ h; omega
  | succ k ih =>
    intro i hi hk
    refine Eq.trans (CFn.step _ rfl) ?_
    refine Eq.trans (evK_es (.int .i64 (c.length : Int)) h1.len rfl) ?_
    refine Eq.trans (evK_t (decide ((i : Int) < (c.length : Int))) rfl) ?_
    by_cases hlt : i < c.length
    · rw [decide_eq_true (by omega : (i : Int) < (c.length : Int)), cond_true]
      have hg : c[i]? = some c[i] := List.getElem?_eq_getElem hlt
      refine Eq.trans (evK_e (plI c[i]) (h1.elem hg) rfl) ?_
      refine Eq.trans (evK_l [.int .i64 c[i]] [.int .i64 c[i]] [] rfl rfl) ?_
      refine Eq.trans (evK_e (plI c[i]) (h2.elem hg) rfl) ?_
      refine Eq.trans (evK_l [.int .i64 c[i]] [.int .i64 c[i]] [] rfl rfl) ?_
      refine Eq.trans (evK_t (c[i] != c[i]) rfl) ?_
      rw [bne_self_eq_false, cond_false]
      refine Eq.trans (evK_d (.int .i64 ((i + 1 : Nat) : Int)) (inc_sev hlt hcl)) ?_
      exact ih (i + 1) (by omega) (by omega)
    · rw [decide_eq_false (by omega), cond_false]
      rfl
theorem sints_cF (l k : List Value) : sints_c.F l k = CFn.F (P := Tryz.prog) [] sints_f l k := by kernel_rfl
theorem sints_F {V1 V2 : Value} {c : List Int} (h1 : IV V1 c) (h2 : IV V2 c) (hcl : c.length ≤ 1000000) : sints_c.F noL [V1, V2] = some ([.bool true], noL) := by
  rw [sints_cF]
  refine CFn.begin (c.length + 2) (by unfold manyK; omega) ?_
  refine Eq.trans (CFn.step _ rfl) ?_
  refine Eq.trans (evK_es (.int .i64 (c.length : Int)) h1.len rfl) ?_
  refine Eq.trans (evK_es (.int .i64 (c.length : Int)) h2.len rfl) ?_
  refine Eq.trans (evK_t ((c.length : Int) != (c.length : Int)) rfl) ?_
  rw [bne_self_eq_false, cond_false]
  exact sints_1 h1 h2 (by omega) (c.length + 1) 0 (by omega) (by omega)
theorem evK_c2 {P : Program} {α β : Type} {cs : List (Ctr P)} {K : α → Env → Option β} {i : Nat} {c : Ctr P} {s : Sub} {a : Tr α} {n m : Nat} {env : Env} (ss0 ls0 ss ls : List Value) (hc : cs[i]? = some c) (h1 : s.ss.map (den env.s) = ss0) (h2 : (s.ls.map fun y => denX env.s env.l y.1) = ls0) (h : c.F ss0 ls0 = some (ss, ls)) : evK cs K (.c i s a) n m env = evK cs K a (Nat.add n c.post.ns) (Nat.add m c.post.nl) ⟨updL env.s n ss, updL env.l m ls⟩ :=
  evK_c ss ls hc (by rw [h1, h2]; exact h)
noncomputable abbrev l2D : List (Ctr Tryz.prog) := [long_c, awake_c, own_c, oints_c, hfragF_c, rfragF_c, rsame_c, sints_c]
theorem set_sev {l : List OpV} {i : Nat} {o : OpV} (hi : l[i]? = some o) (n : Int) : lsev (.set 4 3) [Eng.lv (l.map opL), .int .i64 (i : Int), .int .i64 n] = some (Eng.lv ((l.set i ⟨o.k, o.s, o.b, n⟩).map opL)) := by
  have h2 : (l.map opL)[i]? = some (opL o) := by rw [List.getElem?_map, hi]; rfl
  have h3 : isNilL (Eng.lv (l.map opL)) = false := rfl
  have h4 : (opL o).length = 4 := rfl
  simp only [lsev, lrows_lv, int1_nat, h2, h3, h4]
  show some (Eng.lv (setRow (l.map opL) i 3 [.int .i64 n])) = _
  unfold setRow
  simp only [h2]
  rw [List.map_set]
  rfl
theorem law2_1 (s a b : Su) {VA VB : Value} {la lb : List OpV} (hA : OpsV VA la) (hB : OpsV VB lb) (n : Nat) (hn : n ≤ 1000000) (hs : sameA a b (sameOps la lb) = true) : ∀ (k i : Nat) (l : List OpV), l.length = n → i ≤ n → n - i < k → runT l2D law2_f k 1 (suL s ++ suL a ++ suL b ++ [.int .i64 (i : Int)]) [Eng.lv (l.map opL), VA, VB] = some ([.bool true], noL) := by
  intro k
  induction k with
  | zero => intro i l _ _ h; omega
  | succ k ih =>
    intro i l hl hi hk
    have hO : OV (Eng.lv (l.map opL)) l := lrows_lv _
    refine Eq.trans (CFn.step _ rfl) ?_
    refine Eq.trans (evK_es (.int .i64 (l.length : Int)) hO.len rfl) ?_
    refine Eq.trans (evK_t (decide ((i : Int) < (l.length : Int))) rfl) ?_
    by_cases hlt : i < l.length
    · rw [decide_eq_true (by omega : (i : Int) < (l.length : Int)), cond_true]
      have e1 : lsev (.iad 4) [Eng.lv (l.map opL), .int .i64 (i : Int)] = some (plV l[i]) := by
        have h2 : (l.map opL)[i]? = some (opL l[i]) := by rw [List.getElem?_map, getI hlt]; rfl
        simp only [lsev, lrows_lv, int1_nat, h2]
        rfl
      refine Eq.trans (evK_e (plV l[i]) e1 rfl) ?_
      refine Eq.trans (evK_e (.iface 3 (.agg ⟨opL l[i]⟩)) rfl rfl) ?_
      refine Eq.trans (evK_l (opL l[i]) [.int .i64 l[i].n] [] rfl rfl) ?_
      refine Eq.trans (evK_d (.int .i64 (IntKind.i64.wrap (l[i].n + 1))) rfl) ?_
      refine Eq.trans (evK_e _ (set_sev (getI hlt) (IntKind.i64.wrap (l[i].n + 1))) rfl) ?_
      refine Eq.trans (evK_d (.int .i64 ((i + 1 : Nat) : Int)) (inc_sev hlt (by omega))) ?_
      exact ih (i + 1) _ (by rw [List.length_set]; exact hl) (by omega) (by omega)
    · rw [decide_eq_false (by omega), cond_false]
      refine Eq.trans (evK_c [.bool true] [] rfl (Eq.trans (rsame_F a b hA hB) (by rw [hs]))) ?_
      refine Eq.trans (evK_t true rfl) ?_
      rw [cond_true]
      refine Eq.trans (evK_c [] [] rfl awake_F) ?_
      rfl
theorem law2_cF (l k : List Value) : law2_c.F l k = CFn.F (P := Tryz.prog) l2D law2_f l k := by kernel_rfl
set_option maxHeartbeats 2000000 in
/-- HistoryFragments answers true -/
theorem law2_F (s : Su) {V1 VC : Value} {l1 : List OpV} {c : List Int} (h1 : OpsV V1 l1) (hC : IV VC c) (hcl : c.length ≤ 9223372036854775807) (hs : su64 s) (z1 : ∀ o ∈ l1, o.b.size ≤ 140737488355328) :
    law2_c.F (suL s) [V1, VC] = some ([.bool true], noL) := by
  rw [law2_cF]
  refine CFn.begin 1000 (by decide) ?_
  refine Eq.trans (CFn.step _ rfl) ?_
  refine Eq.trans (evK_c [.bool (longB l1)] [] rfl (long_F s h1)) ?_
  refine Eq.trans (evK_t (longB l1) rfl) ?_
  cases hb1 : longB l1 with
  | true =>
    rw [cond_true]
    refine Eq.trans (evK_c [] [] rfl awake_F) ?_
    rfl
  | false =>
  rw [cond_false]
  obtain ⟨n1, t1, m1⟩ := short_of hb1 z1
  refine Eq.trans (evK_es (.int .i64 (c.length : Int)) hC.len rfl) ?_
  refine Eq.trans (evK_t (decide ((c.length : Int) > 40)) rfl) ?_
  by_cases h40 : 40 < c.length
  · rw [decide_eq_true (by omega : (c.length : Int) > 40), cond_true]
    refine Eq.trans (evK_c [] [] rfl awake_F) ?_
    rfl
  · rw [decide_eq_false (by omega : ¬ (c.length : Int) > 40), cond_false]
    obtain ⟨s', e, L, hr, hL⟩ := fragR_is s h1 c
    have hf := hfragF_F s h1.own (IV.lv c) (by omega) hs t1 hr
    have rf := rfragF_F s h1 hC (by omega) m1 t1 hr
    have hsame : sameA s' s' (sameOps L L) = true := by rw [sameOps_refl, sameA_refl]
    have sm := Eq.trans (rsame_F s' s' hL hL) (by rw [hsame])
    refine Eq.trans (evK_c (suL s) [Eng.lv (l1.map opL)] rfl (own_F s h1 (by omega))) ?_
    refine Eq.trans (evK_c noL [intsL c] rfl (oints_F hC (by omega))) ?_
    refine Eq.trans (evK_c2 (suL s) [Eng.lv (l1.map opL), intsL c] (suL s' ++ [.int .i64 e]) [outV L] rfl rfl rfl hf) ?_
    refine Eq.trans (evK_c2 (suL s) [V1, VC] (suL s' ++ [.int .i64 e]) [outV L] rfl rfl rfl rf) ?_
    refine Eq.trans (evK_c [.bool true] noL rfl sm) ?_
    refine Eq.trans (evK_d (.bool false) rfl) ?_
    refine Eq.trans (evK_t false rfl) ?_
    rw [cond_false]
    refine Eq.trans (evK_t (e != e) rfl) ?_
    rw [bne_self_eq_false, cond_false]
    refine Eq.trans (evK_c [.bool true] noL rfl (sints_F (IV.lv c) hC (by omega))) ?_
    refine Eq.trans (evK_d (.bool false) rfl) ?_
    refine Eq.trans (evK_t false rfl) ?_
    rw [cond_false]
    exact law2_1 s s' s' hL hL l1.length (by omega) hsame 999 0 l1 rfl (by omega) (by omega)
end Go.Proofs.YtokaedcpmiklhaaGreat.U
