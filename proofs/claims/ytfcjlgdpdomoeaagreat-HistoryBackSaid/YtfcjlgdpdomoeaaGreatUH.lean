/- HistoryRead: both Check's, and the comparisons. -/
import Derived.Test.YtfcjlgdpdomoeaaGreatUG
set_option linter.unusedSimpArgs false
set_option linter.unusedVariables false
namespace Go.Proofs.YtfcjlgdpdomoeaaGreat.U
open Go Go.Eng
def firstE : List OpV → Int
  | [] => 0
  | o :: r => if opE o.k o.s o.b o.n = 0 then firstE r else opE o.k o.s o.b o.n
theorem firstE_drop {l : List OpV} {i : Nat} {o : OpV} (h : l[i]? = some o) : firstE (l.drop i) = if opE o.k o.s o.b o.n = 0 then firstE (l.drop (i + 1)) else opE o.k o.s o.b o.n := by
  obtain ⟨hi, rfl⟩ := List.getElem?_eq_some_iff.1 h
  rw [List.drop_eq_getElem_cons hi]
  rfl
def totAt (l : List OpV) (i : Nat) : Nat := (l.take i).foldl (fun a o => a + o.b.size) 0
theorem totAt_succ {l : List OpV} {i : Nat} {o : OpV} (h : l[i]? = some o) : totAt l (i + 1) = totAt l i + o.b.size := by
  unfold totAt
  rw [List.take_add_one, h, List.foldl_append]
  rfl
def chk (s : Su) (l : List OpV) : Int := if ckSv s = 0 then (if 400 < l.length then 6 else firstE l) else 3
theorem ckSv_cases (s : Su) : ckSv s = 0 ∨ ckSv s = 3 := by
  unfold ckSv
  split
  · split
    · exact .inr rfl
    · exact .inl rfl
  · exact .inr rfl
theorem getI {l : List OpV} {i : Nat} (h : i < l.length) : l[i]? = some l[i] := List.getElem?_eq_getElem h
noncomputable abbrev hD : List (Ctr Tryz.prog) := [sck_c, op_c]
theorem hchk_2 {V : Value} {l : List OpV} (hV : OpsV V l) : ∀ (k i : Nat), i ≤ l.length → l.length - i < k → runT hD hchk_f k 2 [.int .i64 (l.length : Int), .int .i64 (i : Int)] [V] = some ([.int .i64 (firstE (l.drop i))], noL) := by
  intro k
  induction k with
  | zero => intro i _ h; omega
  | succ k ih =>
    intro i hi hk
    refine Eq.trans (CFn.step _ rfl) ?_
    refine Eq.trans (evK_t (decide ((i : Int) < (l.length : Int))) rfl) ?_
    by_cases hlt : i < l.length
    · rw [decide_eq_true (by omega : (i : Int) < (l.length : Int)), cond_true]
      obtain ⟨e1, _⟩ := hV.elem (getI hlt)
      refine Eq.trans (evK_e (plV l[i]) e1 rfl) ?_
      refine Eq.trans (evK_l (opL l[i]) (opL l[i]) [] rfl rfl) ?_
      refine Eq.trans (evK_c [.int .i64 (opE l[i].k l[i].s l[i].b l[i].n)] [] rfl (op_F l[i])) ?_
      rw [firstE_drop (getI hlt)]
      generalize opE l[i].k l[i].s l[i].b l[i].n = e
      refine Eq.trans (evK_t (e != 0) rfl) ?_
      by_cases he : e = 0
      · subst he
        rw [if_pos rfl, show ((0 : Int) != 0) = false from rfl, cond_false]
        refine Eq.trans (evK_d (.int .i64 ((i + 1 : Nat) : Int)) (inc_sev hlt hV.short)) ?_
        exact ih (i + 1) (by omega) (by omega)
      · rw [if_neg he, bne_iff_ne.2 he]
        rfl
    · have : i = l.length := by omega
      subst this
      rw [decide_eq_false (by omega), cond_false, List.drop_length]
      rfl
theorem hchk_1 (s : Su) {V : Value} {l : List OpV} (hV : OpsV V l) (htot : ∀ i, i ≤ l.length → totAt l i ≤ 65536) : ∀ (k i : Nat), i ≤ l.length → l.length - i + l.length + 1 < k →
    runT hD hchk_f k 1 (suL s ++ [.int .i64 (totAt l i : Int), .int .i64 (l.length : Int), .int .i64 (i : Int)]) [V, V] = some ([.int .i64 (firstE l)], noL) := by
  intro k
  induction k with
  | zero => intro i _ h; omega
  | succ k ih =>
    intro i hi hk
    refine Eq.trans (CFn.step _ rfl) ?_
    refine Eq.trans (evK_t (decide ((i : Int) < (l.length : Int))) rfl) ?_
    by_cases hlt : i < l.length
    · rw [decide_eq_true (by omega : (i : Int) < (l.length : Int)), cond_true]
      obtain ⟨e1, _⟩ := hV.elem (getI hlt)
      have t1 := htot i hi
      have t2 := htot (i + 1) (by omega)
      have t3 := totAt_succ (getI hlt)
      refine Eq.trans (evK_e (plV l[i]) e1 rfl) ?_
      refine Eq.trans (evK_l (opL l[i]) (opL l[i]) [] rfl rfl) ?_
      refine Eq.trans (evK_d (.int .i64 ((l[i].b.size : Nat) : Int)) rfl) ?_
      refine Eq.trans (evK_d (.int .i64 (65536 - (totAt l i : Int))) (by
        show some (Value.int .i64 (IntKind.i64.wrap (65536 - (totAt l i : Int)))) = _
        rw [wrap_in (by unfold i64R; omega)])) ?_
      refine Eq.trans (evK_t (decide (((l[i].b.size : Nat) : Int) > 65536 - (totAt l i : Int))) rfl) ?_
      rw [decide_eq_false (by omega), cond_false]
      refine Eq.trans (evK_d (.int .i64 ((totAt l (i + 1) : Nat) : Int)) (by
        show some (Value.int .i64 (IntKind.i64.wrap ((totAt l i : Int) + ((l[i].b.size : Nat) : Int)))) = _
        rw [wrap_in (by unfold i64R; omega), t3]
        rfl)) ?_
      refine Eq.trans (evK_d (.int .i64 ((i + 1 : Nat) : Int)) (inc_sev hlt hV.short)) ?_
      exact ih (i + 1) (by omega) (by omega)
    · have : i = l.length := by omega
      subst this
      rw [decide_eq_false (by omega), cond_false]
      refine Eq.trans (evK_es (.int .i64 (l.length : Int)) hV.len rfl) ?_
      exact hchk_2 hV k 0 (by omega) (by omega)
theorem hchk_cF (l k : List Value) : hchk_c.F l k = CFn.F (P := Tryz.prog) hD hchk_f l k := by kernel_rfl
theorem hchk_F (s : Su) {V : Value} {l : List OpV} (hV : OpsV V l) (hx : i64R s.x) (hy : i64R s.y) (hd : i64R s.d) (htot : l.length ≤ 400 → ∀ i, i ≤ l.length → totAt l i ≤ 65536) :
    hchk_c.F (suL s) [V] = some ([.int .i64 (chk s l)], noL) := by
  rw [hchk_cF]
  have h1 := hV.short
  refine CFn.begin (2 * l.length + 3) (by unfold manyK; omega) ?_
  refine Eq.trans (CFn.step _ rfl) ?_
  refine Eq.trans (evK_c [.int .i64 (ckSv s)] [] rfl (sck_F s hx hy hd)) ?_
  refine Eq.trans (evK_t (ckSv s != 0) rfl) ?_
  unfold chk
  rcases ckSv_cases s with h | h
  · rw [h, if_pos rfl, show ((0 : Int) != 0) = false from rfl, cond_false]
    refine Eq.trans (evK_es (.int .i64 (l.length : Int)) hV.len rfl) ?_
    refine Eq.trans (evK_t (decide ((l.length : Int) > 400)) rfl) ?_
    by_cases hl : 400 < l.length
    · rw [if_pos hl, decide_eq_true (by omega)]
      rfl
    · rw [if_neg hl, decide_eq_false (by omega), cond_false]
      exact hchk_1 s hV (htot (by omega)) (2 * l.length + 2) 0 (by omega) (by omega)
  · rw [h]
    rfl
end Go.Proofs.YtfcjlgdpdomoeaaGreat.U
