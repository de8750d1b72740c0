/- What calls and questions answer, by names: together. -/
import Derived.Test.YtbmbakmhnimkfaaGreatZM
set_option linter.unusedSimpArgs false
set_option linter.unusedVariables false
namespace Go.Proofs.YtbmbakmhnimkfaaGreat.U
open Go Go.Eng Go.RowKit
set_option maxRecDepth 100000
theorem sLss (a b : Int) : sev (.bin .lss) [.int .i64 a, .int .i64 b] = some (.bool (decide (a < b))) := rfl
theorem sGtr (a b : Int) : sev (.bin .gtr) [.int .i64 a, .int .i64 b] = some (.bool (decide (a > b))) := rfl
theorem sLeq (a b : Int) : sev (.bin .leq) [.int .i64 a, .int .i64 b] = some (.bool (decide (a ≤ b))) := rfl
theorem sAdd (a b : Int) (h : -9223372036854775808 ≤ a + b) (h2 : a + b < 9223372036854775808) : sev (.bin .add) [.int .i64 a, .int .i64 b] = some (.int .i64 (a + b)) := by
  show some (Value.int .i64 (IntKind.i64.wrap (a + b))) = _
  rw [wI64 h h2]
theorem sMul (a b : Int) (h : -9223372036854775808 ≤ a * b) (h2 : a * b < 9223372036854775808) : sev (.bin .mul) [.int .i64 a, .int .i64 b] = some (.int .i64 (a * b)) := by
  show some (Value.int .i64 (IntKind.i64.wrap (a * b))) = _
  rw [wI64 h h2]
theorem sRem (a : Int) (c : Nat) (hc : 0 < c) : sev (.bin .rem) [.int .i64 a, .int .i64 (.ofNat c)] = some (.int .i64 (a.tmod c)) := by
  show pureSem (Op.intDiv .rem .i64 a (c : Int)) = _
  unfold Op.intDiv
  rw [if_neg (by omega)]
  rfl
theorem lrep (n : Nat) (vs : List Value) (hn : n < 64) : lsev .rep (.int .i64 (n : Int) :: vs) = some (lv (List.replicate n vs)) := by
  have h1 : int1 (.int .i64 (n : Int)) = some n := by
    show (bif decide (0 ≤ (n : Int)) then some (n : Int).toNat else none) = _
    rw [decide_eq_true (by omega), cond_true, Int.toNat_natCast]
  simp only [lsev, h1, Option.map_some]
theorem lwF_ok (g : Bool) (m r n : Nat) (z x : Int) (hm : m < 6) (hr : r < 4) : ∀ q ∈ lwF, q.good (lwVal g m r n z x) := by
  intro q hq
  unfold lwF at hq
  simp only [List.mem_cons, List.not_mem_nil, or_false] at hq
  rcases hq with rfl | rfl | rfl | rfl | rfl
  · exact ⟨rfl, (sLss ((m + 1 : Nat) : Int) 1).trans (by rw [decide_eq_false (by omega)]; rfl)⟩
  · exact ⟨rfl, (sGtr ((m + 1 : Nat) : Int) 64).trans (by rw [decide_eq_false (by omega)]; rfl)⟩
  · exact ⟨rfl, (sLss ((r + 1 : Nat) : Int) 1).trans (by rw [decide_eq_false (by omega)]; rfl)⟩
  · exact ⟨rfl, (sGtr ((r + 1 : Nat) : Int) 16).trans (by rw [decide_eq_false (by omega)]; rfl)⟩
  · exact ⟨rfl, (sLeq ((m + 1 : Nat) : Int) 1048576).trans (by rw [decide_eq_true (by omega)]; rfl)⟩
theorem lwFl_ok (g : Bool) (m r n : Nat) (z x : Int) (hm : m < 6) : ∀ q ∈ lwFl, q.good (lwVal g m r n z x) (lwLv m) := by
  intro q hq
  unfold lwFl at hq
  simp only [List.mem_cons, List.not_mem_nil, or_false] at hq
  rcases hq with rfl | rfl
  · exact ⟨rfl, lrep (m + 1) [iv 0] (by omega)⟩
  · exact ⟨rfl, lrep (m + 1) lwRow (by omega)⟩
theorem tyE_ok (neg : Bool) (g : Bool) (m r n : Nat) (z x : Int) (hm : m < 6) (hr : r < 4) (hx : z.tmod 21 = x) (hn : (n : Int) = bif neg then x + 21 else x) (hs : neg = decide (x < 0)) : (tyE neg).ok (lwVal g m r n z x) (lwLv m) lw_d := by
  refine ⟨lwC_ok g m r n z x hm hr, fun q hq => ?_, lwFl_ok g m r n z x hm⟩
  have hq := List.mem_append.1 hq
  rcases hq with hq | hq
  · cases neg with
    | true =>
      simp only [cond_true, List.mem_cons, List.not_mem_nil, or_false] at hq
      have h0 : x < 0 := of_decide_eq_true hs.symm
      have hn : (n : Int) = x + 21 := hn
      rcases hq with rfl | rfl | rfl
      · exact ⟨rfl, (sRem z 21 (by omega)).trans (by rw [show ((21 : Nat) : Int) = 21 from rfl, hx]; rfl)⟩
      · exact ⟨rfl, (sLss x 0).trans (by rw [decide_eq_true h0]; rfl)⟩
      · refine ⟨rfl, (sAdd x 21 (by omega) (by omega)).trans ?_⟩
        rw [← hn]; rfl
    | false =>
      simp only [cond_false, List.mem_cons, List.not_mem_nil, or_false] at hq
      have h0 : ¬ x < 0 := of_decide_eq_false hs.symm
      have hn : (n : Int) = x := hn
      rcases hq with rfl | rfl
      · exact ⟨rfl, (sRem z 21 (by omega)).trans (by rw [show ((21 : Nat) : Int) = 21 from rfl, hx, ← hn]; rfl)⟩
      · refine ⟨rfl, (sLss (n : Int) 0).trans ?_⟩
        rw [decide_eq_false (by omega)]; rfl
  · exact lwF_ok g m r n z x hm hr q hq
theorem tyG_ok (i : Nat) (g : Bool) (m r n : Nat) (z x : Int) (hm : m < 6) (hr : r < 4) (hi : i < n) : (tyG i).ok (lwVal g m r n z x) (lwLv m) lw_d := by
  refine ⟨lwC_ok g m r n z x hm hr, fun q hq => ?_, fun q hq => (List.not_mem_nil hq).elim⟩
  simp only [tyG, List.mem_cons, List.not_mem_nil, or_false] at hq
  subst hq
  refine ⟨rfl, (sLss (i : Int) (n : Int)).trans ?_⟩
  rw [decide_eq_true (by omega)]; rfl
theorem tyD_ok (n : Nat) (g : Bool) (m r : Nat) (z x : Int) (hm : m < 6) (hr : r < 4) (hn : n ≤ 20) : (tyD n).ok (lwVal g m r n z x) (lwLv m) lw_d := by
  refine ⟨lwC_ok g m r n z x hm hr, fun q hq => ?_, fun q hq => (List.not_mem_nil hq).elim⟩
  simp only [tyD, List.mem_cons, List.not_mem_nil, or_false] at hq
  rcases hq with rfl | rfl
  · refine ⟨rfl, (sLss (n : Int) (n : Int)).trans ?_⟩
    rw [decide_eq_false (by omega)]; rfl
  · refine ⟨rfl, (sMul 10 (n : Int) (by omega) (by omega)).trans ?_⟩
    show some (Value.int .i64 (10 * (n : Int))) = some (Value.int .i64 ((10 * n : Nat) : Int))
    congr 2
/-- what a setup's number says, by names -/
def lwAns : List Value := [iv 0, ff, sv 0, ff, iv 67108864, ff, sv 1, sv 2, iv 65536]
def lwCut (j : Nat) : Option Cut := lw_f.cuts[j]?
noncomputable def lwQ : QE := ⟨setT (TM.lf none) 1 (sv 4 :: lwAns), TM.lf none⟩
noncomputable def okW (A : Tr Lf) : Bool := match evY (tyE false) KY A 11 0 lwQ, evY (tyE true) KY A 11 0 lwQ with
  | some (Nat.succ j, ss, ls), some (Nat.succ j', ss', ls') => Nat.beq j j' && veqL (veq 7) ss ss' && veqL (veq 7) ls ls' && loopY lwCut tyG tyD 20 0 j ss ls
  | _, _ => false
end Go.Proofs.YtbmbakmhnimkfaaGreat.U
