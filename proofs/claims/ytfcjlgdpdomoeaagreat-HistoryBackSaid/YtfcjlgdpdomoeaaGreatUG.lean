/- Lists of ops, and the loop over them in 'long'. -/
import Derived.Test.YtfcjlgdpdomoeaaGreatUF
set_option linter.unusedSimpArgs false
set_option linter.unusedVariables false
namespace Go.Proofs.YtfcjlgdpdomoeaaGreat.U
open Go Go.Eng
/-- a list of ops as a deep value -/
inductive OpsV : Value → List OpV → Prop where
  | zero : OpsV (.slice none 0 0) []
  | row (l : List OpV) : l.length ≤ 9223372036854775807 → (∀ o ∈ l, i64R o.k ∧ i64R o.s ∧ i64R o.n ∧ o.b.size ≤ 9223372036854775807) → OpsV (lv (l.map opL)) l
theorem OpsV.rows {V : Value} {l : List OpV} (h : OpsV V l) : lrows V = some (l.map opL) := by
  cases h with
  | zero => rfl
  | row l _ _ => exact lrows_lv _
theorem OpsV.short {V : Value} {l : List OpV} (h : OpsV V l) : l.length ≤ 9223372036854775807 := by
  cases h with
  | zero => decide
  | row l h1 _ => exact h1
theorem OpsV.len {V : Value} {l : List OpV} (h : OpsV V l) : lsev .len [V] = some (.int .i64 (l.length : Int)) := by
  simp only [lsev, h.rows, Option.map_some, List.length_map]
  rfl
def plV (o : OpV) : Value := .iface 0 (.agg ⟨opL o⟩)
theorem OpsV.elem {V : Value} {l : List OpV} (h : OpsV V l) {i : Nat} {o : OpV} (hi : l[i]? = some o) : lsev (.iad 4) [V, .int .i64 (i : Int)] = some (plV o) ∧ i64R o.k ∧ i64R o.s ∧ i64R o.n ∧ o.b.size ≤ 9223372036854775807 := by
  have h1 : int1 (.int .i64 (i : Int)) = some i := by
    show (bif decide ((0 : Int) ≤ (i : Int)) then some ((i : Int).toNat) else none) = _
    rw [decide_eq_true (by omega), Int.toNat_natCast]
    rfl
  have h2 : (l.map opL)[i]? = some (opL o) := by rw [List.getElem?_map, hi]; rfl
  refine ⟨?_, ?_⟩
  · simp only [lsev, h.rows, h1, h2]
    rfl
  · cases h with
    | zero => simp at hi
    | row l _ h3 => exact h3 o (List.mem_of_getElem? hi)
theorem wrap_in {n : Int} (h : i64R n) : IntKind.i64.wrap n = n := IntWalk.i64_in n h
theorem inc_sev {i : Nat} {n : Nat} (h : i < n) (hn : n ≤ 9223372036854775807) : sev (.bin .add) [.int .i64 (i : Int), .int .i64 1] = some (.int .i64 ((i + 1 : Nat) : Int)) := by
  show some (Value.int .i64 (IntKind.i64.wrap ((i : Int) + 1))) = _
  rw [wrap_in (by unfold i64R; omega)]
  rfl
abbrev runT (cs : List (Ctr Tryz.prog)) (F : CFn) (k i : Nat) (ss ls : List Value) := CFn.run (P := Tryz.prog) cs F k i (envL ss ls)
end Go.Proofs.YtfcjlgdpdomoeaaGreat.U
