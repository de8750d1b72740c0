/- HistoryFragments: what both answer. -/
import Derived.Test.YtokaedcpmiklhaaGreatUP
set_option linter.unusedSimpArgs false
set_option linter.unusedVariables false
namespace Go.Proofs.YtokaedcpmiklhaaGreat.U
open Go Go.Eng
def nilL : Value := .slice none 0 0
/-- what is answered once all is cut -/
def finR (s : Su) (L : List OpV) : List Value × List Value := if 400 < L.length then (zeroL ++ [.int .i64 6], [nilL]) else (suL s ++ [.int .i64 0], [outV L])
theorem hfrag_1 (s : Su) {VO VC : Value} {l : List OpV} (hV : OpsV VO l) {c : List Int} (hC : IV VC c) (hc : ∀ x ∈ c, 1 ≤ x) (hcl : c.length ≤ 9223372036854775807) : ∀ (r : List OpV) (i n k : Nat) (out : List OpV), l.drop i = r → n + totB r ≤ 900000 → out.length + r.length + totB r ≤ 900000 → 2 * r.length + totB r < k →
    runT hfD hfrag_f k 1 (hf1 s n l.length i) [VC, outV out, VO] = some (finR s (out ++ fragL c n r)) := by
  intro r
  induction r with
  | nil =>
    intro i n k out hr _ _ hk
    have hi : l.length ≤ i := by
      have := congrArg List.length hr
      rw [List.length_drop, List.length_nil] at this
      omega
    obtain ⟨k, rfl⟩ : ∃ j, k = j + 1 := ⟨k - 1, by omega⟩
    rw [fragL, List.append_nil]
    unfold finR
    refine Eq.trans (CFn.step _ rfl) ?_
    refine Eq.trans (evK_t (decide ((i : Int) < (l.length : Int))) rfl) ?_
    rw [decide_eq_false (by omega), cond_false]
    refine Eq.trans (evK_es (.int .i64 (out.length : Int)) (OV.out out).len rfl) ?_
    refine Eq.trans (evK_t (decide ((out.length : Int) > 400)) rfl) ?_
    by_cases h4 : 400 < out.length
    · rw [if_pos h4, decide_eq_true (by omega)]
      rfl
    · rw [if_neg h4, decide_eq_false (by omega)]
      rfl
  | cons o r ih =>
    intro i n k out hr hn ho hk
    have hlt : i < l.length := by
      have := congrArg List.length hr
      rw [List.length_drop, List.length_cons] at this
      omega
    rw [List.drop_eq_getElem_cons hlt, List.cons.injEq] at hr
    obtain ⟨hio, hr⟩ := hr
    have hgo : l[i]? = some o := by rw [List.getElem?_eq_getElem hlt, hio]
    obtain ⟨k, rfl⟩ : ∃ j, k = j + 1 := ⟨k - 1, by omega⟩
    simp only [totB, List.length_cons] at hn ho hk
    obtain ⟨e1, _⟩ := hV.elem hgo
    have hone : frag1 c n o = ([o], n) → runT hfD hfrag_f k 1 (hf1 s n l.length (i + 1)) [VC, outV (out ++ [o]), VO] = some (finR s (out ++ fragL c n (o :: r))) := by
      intro h1
      have e : out ++ fragL c n (o :: r) = out ++ [o] ++ fragL c n r := by
        rw [fragL, h1]
        simp
      rw [e]
      exact ih (i + 1) n k (out ++ [o]) hr (by omega) (by rw [List.length_append]; simp; omega) (by omega)
    refine Eq.trans (CFn.step _ rfl) ?_
    refine Eq.trans (evK_t (decide ((i : Int) < (l.length : Int))) rfl) ?_
    rw [decide_eq_true (by omega : (i : Int) < (l.length : Int)), cond_true]
    refine Eq.trans (evK_e (plV o) e1 rfl) ?_
    refine Eq.trans (evK_l (opL o) (opL o) [] rfl rfl) ?_
    refine Eq.trans (evK_es (.int .i64 (c.length : Int)) hC.len rfl) ?_
    refine Eq.trans (evK_t ((c.length : Int) == 0) rfl) ?_
    by_cases hce : c = []
    · have hc0 : ((c.length : Int) == 0) = true := by rw [hce]; rfl
      rw [hc0, cond_true]
      refine Eq.trans (evK_e (outV (out ++ [o])) (app4 (l := out) (by omega) o) rfl) ?_
      refine Eq.trans (evK_d (.int .i64 ((i + 1 : Nat) : Int)) (inc_sev hlt hV.short)) ?_
      exact hone (by unfold frag1; rw [if_pos (.inl hce)])
    · have hc0 : ((c.length : Int) == 0) = false := by
        have : 0 < c.length := List.length_pos_iff.2 hce
        exact beq_eq_false_iff_ne.2 (by omega)
      rw [hc0, cond_false]
      refine Eq.trans (evK_t (o.b.data.toList == []) rfl) ?_
      by_cases hbe : o.b.data.toList = []
      · have hb0 : (o.b.data.toList == []) = true := by rw [hbe]; rfl
        rw [hb0, cond_true]
        refine Eq.trans (evK_e (outV (out ++ [o])) (app4 (l := out) (by omega) o) rfl) ?_
        refine Eq.trans (evK_d (.int .i64 ((i + 1 : Nat) : Int)) (inc_sev hlt hV.short)) ?_
        exact hone (by unfold frag1; rw [if_pos (.inr hbe)])
      · have hb0 : (o.b.data.toList == []) = false := by
          cases h : o.b.data.toList with
          | nil => exact absurd h hbe
          | cons => rfl
        rw [hb0, cond_false]
        have hf1e : frag1 c n o = pcs c o.k o.s o.b.size n o.b.data.toList := by
          unfold frag1
          rw [if_neg (fun h => h.elim hce hbe)]
        have hl := frag1_len c n o
        have e : out ++ fragL c n (o :: r) = out ++ (frag1 c n o).1 ++ fragL c (frag1 c n o).2 r := by
          rw [fragL, List.append_assoc]
        rw [e]
        have h := ih (i + 1) (frag1 c n o).2 (2 * r.length + totB r + 1) (out ++ (frag1 c n o).1) hr (by omega) (by rw [List.length_append]; omega) (by omega)
        rw [hf1e] at h ⊢
        have g := hfrag_2 s (VO := VO) (VP := plV o) (VC2 := VC) hC hce hc hcl l.length i (2 * r.length + totB r + 1) hlt hV.short o (c.length : Int) _ o.b.size n o.b.data.toList out (Nat.le_refl _) (by omega) (by omega) h
        exact CFn.run_mono (k := 2 * r.length + totB r + 1 + o.b.size + 1) (by omega) g
/-- is there a cut below 1? -/
def lowC (c : List Int) : Bool := c.any fun x => decide (x < 1)
theorem idxf_1 {VC : Value} {c : List Int} (hC : IV VC c) (hcl : c.length ≤ 9223372036854775807) : ∀ (r : List Int) (i k : Nat), c.drop i = r → r.length < k → ∃ z : Int, (decide (z ≥ 0) = lowC r) ∧ runT [] idxf_f k 1 [.int .i64 (c.length : Int), .int .i64 (i : Int)] [VC] = some ([.int .i64 z], noL) := by
  intro r
  induction r with
  | nil =>
    intro i k hr hk
    have hi : c.length ≤ i := by
      have := congrArg List.length hr
      rw [List.length_drop, List.length_nil] at this
      omega
    obtain ⟨k, rfl⟩ : ∃ j, k = j + 1 := ⟨k - 1, by omega⟩
    refine ⟨-1, rfl, ?_⟩
    refine Eq.trans (CFn.step _ rfl) ?_
    refine Eq.trans (evK_t (decide ((i : Int) < (c.length : Int))) rfl) ?_
    rw [decide_eq_false (by omega), cond_false]
    rfl
  | cons x r ih =>
    intro i k hr hk
    have hlt : i < c.length := by
      have := congrArg List.length hr
      rw [List.length_drop, List.length_cons] at this
      omega
    rw [List.drop_eq_getElem_cons hlt, List.cons.injEq] at hr
    obtain ⟨hio, hr⟩ := hr
    have hgo : c[i]? = some x := by rw [List.getElem?_eq_getElem hlt, hio]
    obtain ⟨k, rfl⟩ : ∃ j, k = j + 1 := ⟨k - 1, by omega⟩
    rw [List.length_cons] at hk
    have start : ∀ (z : Int), (bif decide (x < 1) then some ([.int .i64 (i : Int)], noL) else runT [] idxf_f k 1 [.int .i64 (c.length : Int), .int .i64 ((i + 1 : Nat) : Int)] [VC]) = some ([.int .i64 z], noL) → runT [] idxf_f (k + 1) 1 [.int .i64 (c.length : Int), .int .i64 (i : Int)] [VC] = some ([.int .i64 z], noL) := by
      intro z hz
      refine Eq.trans (CFn.step _ rfl) ?_
      refine Eq.trans (evK_t (decide ((i : Int) < (c.length : Int))) rfl) ?_
      rw [decide_eq_true (by omega : (i : Int) < (c.length : Int)), cond_true]
      refine Eq.trans (evK_e (plI x) (hC.elem hgo) rfl) ?_
      refine Eq.trans (evK_l [.int .i64 x] [.int .i64 x] [] rfl rfl) ?_
      refine Eq.trans (evK_t (decide (x < 1)) rfl) ?_
      cases hx : decide (x < 1) with
      | true => rw [hx] at hz; exact hz
      | false =>
        rw [hx, cond_false] at hz
        rw [cond_false]
        refine Eq.trans (evK_d (.int .i64 ((i + 1 : Nat) : Int)) (inc_sev hlt hcl)) ?_
        exact hz
    by_cases hx : x < 1
    · refine ⟨(i : Int), ?_, start _ ?_⟩
      · rw [decide_eq_true (by omega)]
        simp [lowC, hx]
      · rw [decide_eq_true hx]
        rfl
    · obtain ⟨z, h1, h2⟩ := ih (i + 1) k hr (by omega)
      refine ⟨z, ?_, start _ ?_⟩
      · rw [h1]
        simp [lowC, hx]
      · rw [decide_eq_false hx]
        exact h2
theorem idxf_cF (l k : List Value) : idxf_c.F l k = CFn.F (P := Tryz.prog) [] idxf_f l k := by kernel_rfl
theorem contf_cF (l k : List Value) : contf_c.F l k = CFn.F (P := Tryz.prog) [idxf_c] contf_f l k := by kernel_rfl
theorem contf_F {VC : Value} {c : List Int} (hC : IV VC c) (hcl : c.length ≤ 1000000) : contf_c.F noL [VC] = some ([.bool (lowC c)], noL) := by
  obtain ⟨z, h1, h2⟩ := idxf_1 hC (by omega) c 0 (c.length + 1) rfl (by omega)
  have h3 : idxf_c.F noL [VC] = some ([.int .i64 z], noL) := by
    rw [idxf_cF]
    refine CFn.begin (c.length + 2) (by unfold manyK; omega) ?_
    refine Eq.trans (CFn.step _ rfl) ?_
    refine Eq.trans (evK_es (.int .i64 (c.length : Int)) hC.len rfl) ?_
    exact h2
  rw [contf_cF]
  refine CFn.flat (cs := [idxf_c]) (F := contf_f) _ rfl ?_
  refine Eq.trans (evK_c [.int .i64 z] noL rfl h3) ?_
  refine Eq.trans (evK_t (decide (z ≥ 0)) rfl) ?_
  rw [h1]
  cases lowC c <;> rfl
theorem lowC_ge {c : List Int} (h : lowC c = false) : ∀ x ∈ c, 1 ≤ x := by
  intro x hx
  unfold lowC at h
  have := List.any_eq_false.1 h x hx
  simp at this
  omega
/-- what Fragment answers -/
def fragR (s : Su) (l : List OpV) (c : List Int) : List Value × List Value :=
  if chk s l = 0 then (if lowC c = true then (zeroL ++ [.int .i64 3], [nilL]) else finR s (fragL c 0 l)) else (zeroL ++ [.int .i64 (chk s l)], [nilL])
theorem hfrag_cF (l k : List Value) : hfrag_c.F l k = CFn.F (P := Tryz.prog) hfD hfrag_f l k := by kernel_rfl
theorem hfrag_F (s : Su) {VO VC : Value} {l : List OpV} (hV : OpsV VO l) {c : List Int} (hC : IV VC c) (hcl : c.length ≤ 1000000) (hs : su64 s) (htot : l.length ≤ 400 → ∀ i, i ≤ l.length → totAt l i ≤ 65536) :
    hfrag_c.F (suL s) [VO, VC] = some (fragR s l c) := by
  rw [hfrag_cF]
  have hB : chk s l = 0 → l.length ≤ 400 ∧ totB l ≤ 65536 := by
    intro h
    have h1 := chk_len h
    have h2 := htot h1 l.length (Nat.le_refl _)
    have h3 := totB_take l l.length (Nat.le_refl _)
    rw [List.drop_length] at h3
    simp only [totB] at h3
    exact ⟨h1, by omega⟩
  refine CFn.begin 100000 (by decide) ?_
  refine Eq.trans (CFn.step _ rfl) ?_
  refine Eq.trans (evK_c [.int .i64 (chk s l)] [] rfl (hchk_F s hV hs.1 hs.2.1 hs.2.2 htot)) ?_
  refine Eq.trans (evK_t (chk s l != 0) rfl) ?_
  unfold fragR
  by_cases hc : chk s l = 0
  · obtain ⟨b1, b2⟩ := hB hc
    rw [hc, if_pos rfl, show ((0 : Int) != 0) = false from rfl, cond_false]
    refine Eq.trans (evK_c [.bool (lowC c)] noL rfl (contf_F hC hcl)) ?_
    refine Eq.trans (evK_t (lowC c) rfl) ?_
    cases hlow : lowC c with
    | true => rfl
    | false =>
      rw [cond_false, if_neg (by decide)]
      refine Eq.trans (evK_es (.int .i64 (l.length : Int)) hV.len rfl) ?_
      exact hfrag_1 s hV hC (lowC_ge hlow) (by omega) l 0 0 99999 [] rfl (by omega) (by simp; omega) (by omega)
  · rw [if_neg hc, bne_iff_ne.2 hc]
    rfl
end Go.Proofs.YtokaedcpmiklhaaGreat.U
