/- Lists of ops, and the loop over them in 'long'. -/
import Derived.Test.YtokaedcpmiklhaaGreatUF
set_option linter.unusedSimpArgs false
set_option linter.unusedVariables false
namespace Go.Proofs.YtokaedcpmiklhaaGreat.U
open Go Go.Eng
/-- a list of ops as a deep value -/
inductive OpsV : Value → List OpV → Prop where
  | zero : OpsV (.slice none 0 0) []
  | row (l : List OpV) : l.length ≤ 9223372036854775807 → (∀ o ∈ l, i64R o.k ∧ i64R o.s ∧ i64R o.n ∧ o.b.size ≤ 9223372036854775807) → OpsV (lv (l.map opL)) l
theorem OpsV.rows {V : Value} {l : List OpV} (h : OpsV V l) : lrows V = some (l.map opL) := by
  cases h with
  | zero => rfl
  | row l _ _ => exact lrows_lv _
theorem OpsV.short {V : Value} {l : List OpV} (h : OpsV V l) : l.length ≤ 9223372036854775807 := by
  cases h with
  | zero => decide
  | row l h1 _ => exact h1
theorem OpsV.len {V : Value} {l : List OpV} (h : OpsV V l) : lsev .len [V] = some (.int .i64 (l.length : Int)) := by
  simp only [lsev, h.rows, Option.map_some, List.length_map]
  rfl
def plV (o : OpV) : Value := .iface 0 (.agg ⟨opL o⟩)
theorem OpsV.elem {V : Value} {l : List OpV} (h : OpsV V l) {i : Nat} {o : OpV} (hi : l[i]? = some o) : lsev (.iad 4) [V, .int .i64 (i : Int)] = some (plV o) ∧ i64R o.k ∧ i64R o.s ∧ i64R o.n ∧ o.b.size ≤ 9223372036854775807 := by
  have h1 : int1 (.int .i64 (i : Int)) = some i := by
    show (bif decide ((0 : Int) ≤ (i : Int)) then some ((i : Int).toNat) else none) = _
    rw [decide_eq_true (by omega), Int.toNat_natCast]
    rfl
  have h2 : (l.map opL)[i]? = some (opL o) := by rw [List.getElem?_map, hi]; rfl
  refine ⟨?_, ?_⟩
  · simp only [lsev, h.rows, h1, h2]
    rfl
  · cases h with
    | zero => simp at hi
    | row l _ h3 => exact h3 o (List.mem_of_getElem? hi)
theorem wrap_in {n : Int} (h : i64R n) : IntKind.i64.wrap n = n := IntWalk.i64_in n h
theorem inc_sev {i : Nat} {n : Nat} (h : i < n) (hn : n ≤ 9223372036854775807) : sev (.bin .add) [.int .i64 (i : Int), .int .i64 1] = some (.int .i64 ((i + 1 : Nat) : Int)) := by
  show some (Value.int .i64 (IntKind.i64.wrap ((i : Int) + 1))) = _
  rw [wrap_in (by unfold i64R; omega)]
  rfl
def addW (acc : Int) (o : OpV) : Int := IntKind.i64.wrap (acc + o.b.size)
def manyAt (l : List OpV) (i : Nat) : Int := (l.take i).foldl addW 0
theorem manyAt_succ {l : List OpV} {i : Nat} {o : OpV} (h : l[i]? = some o) : manyAt l (i + 1) = addW (manyAt l i) o := by
  unfold manyAt
  rw [List.take_add_one, h, List.foldl_append]
  rfl
def longB (l : List OpV) : Bool := (decide (60 < l.length) || decide (3000 < manyAt l l.length)) && decide (l.length ≤ 400) || decide (450 < l.length)
def longT (n m : Int) : Option (List Value × List Value) := bif decide (n > 60) then (bif decide (n ≤ 400) then some ([.bool true], noL) else bif decide (n > 450) then some ([.bool true], noL) else some ([.bool false], noL))
  else bif decide (m > 3000) then (bif decide (n ≤ 400) then some ([.bool true], noL) else none) else bif decide (n > 450) then none else some ([.bool false], noL)
theorem longT_is (l : List OpV) : longT l.length (manyAt l l.length) = some ([.bool (longB l)], noL) := by
  unfold longT longB
  generalize manyAt l l.length = m
  generalize l.length = n
  have k1 : (60 < n) ↔ ((n : Int) > 60) := by omega
  have k2 : (n ≤ 400) ↔ ((n : Int) ≤ 400) := by omega
  have k3 : (450 < n) ↔ ((n : Int) > 450) := by omega
  have key : ∀ a b : Bool, a = b → some ([Value.bool a], noL) = some ([.bool b], noL) := fun a b h => by rw [h]
  (repeat' (refine Go.Eng.both (fun h => ?_) (fun h => ?_)))
  all_goals first
    | (exfalso; (simp only [decide_eq_true_eq, decide_eq_false_iff_not, beq_iff_eq, beq_eq_false_iff_ne, bne_iff_ne, bne_eq_false_iff_eq, ne_eq, Bool.not_not, Bool.not_eq_true', Bool.not_eq_false', not_true_eq_false] at *); omega)
    | (refine key _ _ ?_
       (simp only [decide_eq_true_eq, decide_eq_false_iff_not, beq_iff_eq, beq_eq_false_iff_ne, bne_iff_ne, bne_eq_false_iff_eq, ne_eq, Bool.not_not, Bool.not_eq_true', Bool.not_eq_false', not_true_eq_false] at *)
       first
         | (symm; simp only [Bool.or_eq_true, Bool.and_eq_true, decide_eq_true_eq]; omega)
         | (symm; simp only [Bool.or_eq_false_iff, Bool.and_eq_false_iff, decide_eq_false_iff_not]; omega))
abbrev runT (cs : List (Ctr Tryz.prog)) (F : CFn) (k i : Nat) (ss ls : List Value) := CFn.run (P := Tryz.prog) cs F k i (envL ss ls)
theorem long_loop (s : Su) {V : Value} {l : List OpV} (hV : OpsV V l) : ∀ (k i : Nat), i ≤ l.length → l.length - i < k → runT [] long_f k 1 (suL s ++ [.int .i64 (manyAt l i), .int .i64 (i : Int)]) [V] = some ([.bool (longB l)], noL) := by
  intro k
  induction k with
  | zero => intro i _ h; omega
  | succ k ih =>
    intro i hi hk
    refine Eq.trans (CFn.step _ rfl) ?_
    refine Eq.trans (evK_es (.int .i64 (l.length : Int)) hV.len rfl) ?_
    refine Eq.trans (evK_t (decide ((i : Int) < (l.length : Int))) rfl) ?_
    by_cases hlt : i < l.length
    · rw [decide_eq_true (by omega : (i : Int) < (l.length : Int)), cond_true]
      obtain ⟨e1, _⟩ := hV.elem (List.getElem?_eq_getElem hlt)
      refine Eq.trans (evK_e (plV l[i]) e1 rfl) ?_
      refine Eq.trans (evK_e (.iface 2 (.agg ⟨opL l[i]⟩)) rfl rfl) ?_
      refine Eq.trans (evK_l (opL l[i]) [.string l[i].b] [] rfl rfl) ?_
      refine Eq.trans (evK_d (.int .i64 ((l[i].b.size : Nat) : Int)) rfl) ?_
      refine Eq.trans (evK_d (.int .i64 (manyAt l (i + 1))) (by rw [manyAt_succ (List.getElem?_eq_getElem hlt)]; rfl)) ?_
      refine Eq.trans (evK_d (.int .i64 ((i + 1 : Nat) : Int)) (inc_sev hlt hV.short)) ?_
      exact ih (i + 1) (by omega) (by omega)
    · have : i = l.length := by omega
      subst this
      rw [decide_eq_false (by omega), cond_false]
      exact Eq.trans (b := longT l.length (manyAt l l.length)) (by rfl) (longT_is l)
theorem long_cF (l k : List Value) : long_c.F l k = CFn.F (P := Tryz.prog) [] long_f l k := rfl
theorem long_F (s : Su) {V : Value} {l : List OpV} (hV : OpsV V l) : long_c.F (suL s) [V] = some ([.bool (longB l)], noL) := by
  rw [long_cF]
  have h1 := hV.short
  refine CFn.begin (l.length + 2) (by unfold manyK; omega) ?_
  refine Eq.trans (CFn.step _ rfl) ?_
  exact long_loop s hV (l.length + 1) 0 (by omega) (by omega)
end Go.Proofs.YtokaedcpmiklhaaGreat.U
