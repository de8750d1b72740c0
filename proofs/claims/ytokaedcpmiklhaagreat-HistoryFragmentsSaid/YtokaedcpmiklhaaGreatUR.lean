/- HistoryFragments: the reference's. -/
import Derived.Test.YtokaedcpmiklhaaGreatUQ
set_option linter.unusedSimpArgs false
set_option linter.unusedVariables false
namespace Go.Proofs.YtokaedcpmiklhaaGreat.U
open Go Go.Eng
def rf2 (s : Su) (n i : Nat) : List Value := suL s ++ zeroL ++ suL s ++ [.int .i64 (n : Int), .int .i64 (i : Int)]
def rf3 (s : Su) (n len i : Nat) (o : OpV) (t : ByteArray) (cl : Int) : List Value :=
  rf2 s n i ++ opL o ++ [.string t, .int .i64 (i : Int), .int .i64 (len : Int), .bool true, .int .i64 (i : Int)] ++ opL o ++ [.int .i64 cl, .bool false, .bool false, .string o.b, .bool false, .bool false, .string o.b]
set_option maxHeartbeats 2000000 in
theorem rfrag_3 (s : Su) {VO VC VP VO2 VO3 VC2 : Value} {c : List Int} (hC : IV VC c) (h0 : c ≠ []) (hc : ∀ x ∈ c, 1 ≤ x) (len i k : Nat) (hil : i < len) (hlen : len ≤ 9223372036854775807) (o : OpV) (cl : Int) (rs : List Value × List Value) : ∀ (f n : Nat) (t : List UInt8) (out : List OpV), t.length ≤ f → n + f ≤ 1000000 → out.length + f ≤ 1000000 →
    runT rfD rfrag_f k 2 (rf2 s (pcs c o.k o.s f n t).2 (i + 1)) [VC, VO, outV (out ++ (pcs c o.k o.s f n t).1)] = some rs → runT rfD rfrag_f (k + f + 1) 3 (rf3 s n len i o ⟨⟨t⟩⟩ cl) [VC, VO, outV out, VO2, VO3, VP, VC2] = some rs := by
  intro f
  induction f with
  | zero =>
    intro n t out ht hn ho h
    have : t = [] := List.length_eq_zero_iff.1 (by omega)
    subst this
    refine Eq.trans (CFn.step _ rfl) ?_
    refine Eq.trans (evK_t false rfl) ?_
    rw [cond_false]
    refine Eq.trans (evK_d (.int .i64 ((i + 1 : Nat) : Int)) (inc_sev hil hlen)) ?_
    have e0 : pcs c o.k o.s 0 n [] = ([], n) := rfl
    rw [e0] at h
    simp only [List.append_nil] at h
    exact h
  | succ f ih =>
    intro n t out ht hn ho h
    refine Eq.trans (CFn.step _ rfl) ?_
    refine Eq.trans (evK_t (!(t == [])) (ne_sev t)) ?_
    by_cases he : t = []
    · subst he
      rw [show (!(([] : List UInt8) == [])) = false from rfl, cond_false]
      refine Eq.trans (evK_d (.int .i64 ((i + 1 : Nat) : Int)) (inc_sev hil hlen)) ?_
      refine CFn.run_mono (k := k) (by omega) ?_
      have e0 : pcs c o.k o.s (f + 1) n [] = ([], n) := by
        unfold pcs
        rw [if_pos rfl]
      rw [e0] at h
      simp only [List.append_nil] at h
      exact h
    · have hb : (!(t == [])) = true := by
        cases t with
        | nil => exact absurd rfl he
        | cons => rfl
      rw [hb, cond_true]
      have hp : 0 < c.length := List.length_pos_iff.2 h0
      have hm : n % c.length < c.length := Nat.mod_lt _ hp
      have hx : c.getD (n % c.length) 0 = c[n % c.length] := by rw [List.getD_eq_getElem?_getD, List.getElem?_eq_getElem hm]; rfl
      have hx1 := hc c[n % c.length] (List.getElem_mem hm)
      have ht0 : 0 < t.length := List.length_pos_iff.2 he
      have hmin : min (c.getD (n % c.length) 0) (t.length : Int) = (((min (c.getD (n % c.length) 0) (t.length : Int)).toNat : Nat) : Int) := by omega
      generalize hq : (min (c.getD (n % c.length) 0) (t.length : Int)).toNat = q at *
      have hq1 : 1 ≤ q ∧ q ≤ t.length := by omega
      have h4 : lsev (.app 4) [outV out, .int .i64 o.k, .int .i64 o.s, .string ⟨⟨t.take q⟩⟩, .int .i64 0] = some (outV (out ++ [OpV.mk o.k o.s ⟨⟨t.take q⟩⟩ 0])) := app4 (l := out) (by omega) ⟨o.k, o.s, ⟨⟨t.take q⟩⟩, 0⟩
      refine Eq.trans (evK_d (.int .i64 (t.length : Int)) rfl) ?_
      refine Eq.trans (evK_es (.int .i64 (c.length : Int)) hC.len rfl) ?_
      refine Eq.trans (evK_d (.int .i64 ((n % c.length : Nat) : Int)) (rem_sev hp)) ?_
      refine Eq.trans (evK_e (plI c[n % c.length]) (hC.elem (List.getElem?_eq_getElem hm)) rfl) ?_
      refine Eq.trans (evK_l [.int .i64 c[n % c.length]] [.int .i64 c[n % c.length]] [] rfl rfl) ?_
      refine Eq.trans (evK_d (.int .i64 (q : Int)) (Eq.trans (min_sev _ _) (by rw [← hx, Int.min_comm, hmin]))) ?_
      refine Eq.trans (evK_d (.string ⟨⟨t.take q⟩⟩) (sub_to t q hq1.2)) ?_
      refine Eq.trans (evK_e (outV (out ++ [OpV.mk o.k o.s ⟨⟨t.take q⟩⟩ 0])) h4 rfl) ?_
      refine Eq.trans (evK_d (.string ⟨⟨t.drop q⟩⟩) (sub_from t q hq1.2)) ?_
      refine Eq.trans (evK_d (.int .i64 ((n + 1 : Nat) : Int)) (inc_sev (n := n + 1) (by omega) (by omega))) ?_
      refine ih (n + 1) (t.drop q) (out ++ [OpV.mk o.k o.s ⟨⟨t.take q⟩⟩ 0]) (by rw [List.length_drop]; omega) (by omega) (by rw [List.length_append]; simp; omega) ?_
      have e : pcs c o.k o.s (f + 1) n t = (⟨o.k, o.s, ⟨⟨t.take q⟩⟩, 0⟩ :: (pcs c o.k o.s f (n + 1) (t.drop q)).1, (pcs c o.k o.s f (n + 1) (t.drop q)).2) := by
        conv => lhs; unfold pcs
        rw [if_neg he, hq]
      rw [e] at h
      simpa only [List.append_assoc, List.cons_append, List.nil_append] using h
theorem rfrag_2 (s : Su) {VO VC : Value} {l : List OpV} (hV : OpsV VO l) {c : List Int} (hC : IV VC c) (hc : ∀ x ∈ c, 1 ≤ x) : ∀ (r : List OpV) (i n k : Nat) (out : List OpV), l.drop i = r → n + totB r ≤ 900000 → out.length + r.length + totB r ≤ 900000 → 2 * r.length + totB r < k →
    runT rfD rfrag_f k 2 (rf2 s n i) [VC, VO, outV out] = some (finR s (out ++ fragL c n r)) := by
  intro r
  induction r with
  | nil =>
    intro i n k out hr _ _ hk
    have hi : l.length ≤ i := by
      have := congrArg List.length hr
      rw [List.length_drop, List.length_nil] at this
      omega
    obtain ⟨k, rfl⟩ : ∃ j, k = j + 1 := ⟨k - 1, by omega⟩
    rw [fragL, List.append_nil]
    unfold finR
    refine Eq.trans (CFn.step _ rfl) ?_
    refine Eq.trans (evK_es (.int .i64 (l.length : Int)) hV.len rfl) ?_
    refine Eq.trans (evK_t (decide ((i : Int) < (l.length : Int))) rfl) ?_
    rw [decide_eq_false (by omega), cond_false]
    refine Eq.trans (evK_es (.int .i64 (out.length : Int)) (OV.out out).len rfl) ?_
    refine Eq.trans (evK_t (decide ((out.length : Int) > 400)) rfl) ?_
    by_cases h4 : 400 < out.length
    · rw [if_pos h4, decide_eq_true (by omega)]
      rfl
    · rw [if_neg h4, decide_eq_false (by omega)]
      rfl
  | cons o r ih =>
    intro i n k out hr hn ho hk
    have hlt : i < l.length := by
      have := congrArg List.length hr
      rw [List.length_drop, List.length_cons] at this
      omega
    rw [List.drop_eq_getElem_cons hlt, List.cons.injEq] at hr
    obtain ⟨hio, hr⟩ := hr
    have hgo : l[i]? = some o := by rw [List.getElem?_eq_getElem hlt, hio]
    obtain ⟨k, rfl⟩ : ∃ j, k = j + 1 := ⟨k - 1, by omega⟩
    simp only [totB, List.length_cons] at hn ho hk
    obtain ⟨e1, _⟩ := hV.elem hgo
    have hone : frag1 c n o = ([o], n) → runT rfD rfrag_f k 2 (rf2 s n (i + 1)) [VC, VO, outV (out ++ [o])] = some (finR s (out ++ fragL c n (o :: r))) := by
      intro h1
      have e : out ++ fragL c n (o :: r) = out ++ [o] ++ fragL c n r := by
        rw [fragL, h1]
        simp
      rw [e]
      exact ih (i + 1) n k (out ++ [o]) hr (by omega) (by rw [List.length_append]; simp; omega) (by omega)
    refine Eq.trans (CFn.step _ rfl) ?_
    refine Eq.trans (evK_es (.int .i64 (l.length : Int)) hV.len rfl) ?_
    refine Eq.trans (evK_t (decide ((i : Int) < (l.length : Int))) rfl) ?_
    rw [decide_eq_true (by omega : (i : Int) < (l.length : Int)), cond_true]
    refine Eq.trans (evK_e (plV o) e1 rfl) ?_
    refine Eq.trans (evK_l (opL o) (opL o) [] rfl rfl) ?_
    refine Eq.trans (evK_es (.int .i64 (c.length : Int)) hC.len rfl) ?_
    refine Eq.trans (evK_t ((c.length : Int) == 0) rfl) ?_
    by_cases hce : c = []
    · have hc0 : ((c.length : Int) == 0) = true := by rw [hce]; rfl
      rw [hc0, cond_true]
      refine Eq.trans (evK_e (outV (out ++ [o])) (app4 (l := out) (by omega) o) rfl) ?_
      refine Eq.trans (evK_d (.int .i64 ((i + 1 : Nat) : Int)) (inc_sev hlt hV.short)) ?_
      exact hone (by unfold frag1; rw [if_pos (.inl hce)])
    · have hc0 : ((c.length : Int) == 0) = false := by
        have : 0 < c.length := List.length_pos_iff.2 hce
        exact beq_eq_false_iff_ne.2 (by omega)
      rw [hc0, cond_false]
      refine Eq.trans (evK_t (o.b.data.toList == []) rfl) ?_
      by_cases hbe : o.b.data.toList = []
      · have hb0 : (o.b.data.toList == []) = true := by rw [hbe]; rfl
        rw [hb0, cond_true]
        refine Eq.trans (evK_e (outV (out ++ [o])) (app4 (l := out) (by omega) o) rfl) ?_
        refine Eq.trans (evK_d (.int .i64 ((i + 1 : Nat) : Int)) (inc_sev hlt hV.short)) ?_
        exact hone (by unfold frag1; rw [if_pos (.inr hbe)])
      · have hb0 : (o.b.data.toList == []) = false := by
          cases h : o.b.data.toList with
          | nil => exact absurd h hbe
          | cons => rfl
        rw [hb0, cond_false]
        have hf1e : frag1 c n o = pcs c o.k o.s o.b.size n o.b.data.toList := by
          unfold frag1
          rw [if_neg (fun h => h.elim hce hbe)]
        have hl := frag1_len c n o
        have e : out ++ fragL c n (o :: r) = out ++ (frag1 c n o).1 ++ fragL c (frag1 c n o).2 r := by
          rw [fragL, List.append_assoc]
        rw [e]
        have h := ih (i + 1) (frag1 c n o).2 (2 * r.length + totB r + 1) (out ++ (frag1 c n o).1) hr (by omega) (by rw [List.length_append]; omega) (by omega)
        rw [hf1e] at h ⊢
        have g := rfrag_3 s (VO := VO) (VO2 := VO) (VO3 := VO) (VP := plV o) (VC2 := VC) hC hce hc l.length i (2 * r.length + totB r + 1) hlt hV.short o (c.length : Int) _ o.b.size n o.b.data.toList out (Nat.le_refl _) (by omega) (by omega) h
        exact CFn.run_mono (k := 2 * r.length + totB r + 1 + o.b.size + 1) (by omega) g
theorem rfrag_1 (s : Su) {VO VC : Value} {l : List OpV} (hV : OpsV VO l) {c : List Int} (hC : IV VC c) (hcl : c.length ≤ 9223372036854775807) (hl : l.length + totB l ≤ 300000) : ∀ (r : List Int) (i k : Nat), c.drop i = r → (∀ x ∈ c.take i, 1 ≤ x) → r.length + 700000 ≤ k →
    runT rfD rfrag_f k 1 (suL s ++ zeroL ++ [.int .i64 (i : Int)]) [VC, VO] = some (if lowC r = true then (zeroL ++ [.int .i64 3], [nilL]) else finR s (fragL c 0 l)) := by
  intro r
  induction r with
  | nil =>
    intro i k hr hpre hk
    have hi : c.length ≤ i := by
      have := congrArg List.length hr
      rw [List.length_drop, List.length_nil] at this
      omega
    rw [List.take_of_length_le hi] at hpre
    obtain ⟨k, rfl⟩ : ∃ j, k = j + 1 := ⟨k - 1, by omega⟩
    rw [if_neg (by decide)]
    refine Eq.trans (CFn.step _ rfl) ?_
    refine Eq.trans (evK_es (.int .i64 (c.length : Int)) hC.len rfl) ?_
    refine Eq.trans (evK_t (decide ((i : Int) < (c.length : Int))) rfl) ?_
    rw [decide_eq_false (by omega), cond_false]
    exact rfrag_2 s hV hC hpre l 0 0 k [] rfl (by omega) (by simp; omega) (by omega)
  | cons x r ih =>
    intro i k hr hpre hk
    have hlt : i < c.length := by
      have := congrArg List.length hr
      rw [List.length_drop, List.length_cons] at this
      omega
    rw [List.drop_eq_getElem_cons hlt, List.cons.injEq] at hr
    obtain ⟨hio, hr⟩ := hr
    have hgo : c[i]? = some x := by rw [List.getElem?_eq_getElem hlt, hio]
    obtain ⟨k, rfl⟩ : ∃ j, k = j + 1 := ⟨k - 1, by omega⟩
    rw [List.length_cons] at hk
    refine Eq.trans (CFn.step _ rfl) ?_
    refine Eq.trans (evK_es (.int .i64 (c.length : Int)) hC.len rfl) ?_
    refine Eq.trans (evK_t (decide ((i : Int) < (c.length : Int))) rfl) ?_
    rw [decide_eq_true (by omega : (i : Int) < (c.length : Int)), cond_true]
    refine Eq.trans (evK_e (plI x) (hC.elem hgo) rfl) ?_
    refine Eq.trans (evK_l [.int .i64 x] [.int .i64 x] [] rfl rfl) ?_
    refine Eq.trans (evK_t (decide (x < 1)) rfl) ?_
    by_cases hx : x < 1
    · rw [decide_eq_true hx, cond_true, if_pos (by simp [lowC, hx])]
      rfl
    · rw [decide_eq_false hx, cond_false]
      refine Eq.trans (evK_d (.int .i64 ((i + 1 : Nat) : Int)) (inc_sev hlt hcl)) ?_
      have e : lowC (x :: r) = lowC r := by simp [lowC, hx]
      rw [e]
      refine ih (i + 1) k hr (fun y hy => ?_) (by omega)
      rw [List.take_add_one, hgo, List.mem_append] at hy
      rcases hy with hy | hy
      · exact hpre y hy
      · simp at hy
        omega
theorem rfrag_cF (l k : List Value) : rfrag_c.F l k = CFn.F (P := Tryz.prog) rfD rfrag_f l k := by kernel_rfl
theorem rfrag_F (s : Su) {VO VC : Value} {l : List OpV} (hV : OpsV VO l) {c : List Int} (hC : IV VC c) (hcl : c.length ≤ 1000000) (hm : l.length ≤ 400 → manyAt l l.length ≤ 65536) (htot : l.length ≤ 400 → ∀ i, i ≤ l.length → totAt l i ≤ 65536) :
    rfrag_c.F (suL s) [VO, VC] = some (fragR s l c) := by
  rw [rfrag_cF]
  have hB : chk s l = 0 → l.length ≤ 400 ∧ totB l ≤ 65536 := by
    intro h
    have h1 := chk_len h
    have h2 := htot h1 l.length (Nat.le_refl _)
    have h3 := totB_take l l.length (Nat.le_refl _)
    rw [List.drop_length] at h3
    simp only [totB] at h3
    exact ⟨h1, by omega⟩
  refine CFn.begin (c.length + 700002) (by unfold manyK; omega) ?_
  refine Eq.trans (CFn.step _ rfl) ?_
  refine Eq.trans (evK_c [.int .i64 (chk s l)] [] rfl (rchk_F s hV hm)) ?_
  refine Eq.trans (evK_t (chk s l != 0) rfl) ?_
  unfold fragR
  by_cases hc : chk s l = 0
  · obtain ⟨b1, b2⟩ := hB hc
    rw [hc, if_pos rfl, show ((0 : Int) != 0) = false from rfl, cond_false]
    exact rfrag_1 s hV hC (by omega) (by omega) c 0 (c.length + 700001) rfl (fun x hx => by simp at hx) (by omega)
  · rw [if_neg hc, bne_iff_ne.2 hc]
    rfl
end Go.Proofs.YtokaedcpmiklhaaGreat.U
