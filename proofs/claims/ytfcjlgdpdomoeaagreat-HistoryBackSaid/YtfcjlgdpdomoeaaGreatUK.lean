/- HistoryRead: the law. -/
import Derived.Test.YtfcjlgdpdomoeaaGreatUJ
set_option linter.unusedSimpArgs false
set_option linter.unusedVariables false
namespace Go.Proofs.YtfcjlgdpdomoeaaGreat.U
open Go Go.Eng
theorem totAt_le {l : List OpV} (h : ∀ o ∈ l, o.b.size ≤ 140737488355328) : ∀ i, i ≤ l.length → totAt l i ≤ i * 140737488355328 := by
  intro i
  induction i with
  | zero => intro _; exact Nat.le_of_eq (by simp [totAt])
  | succ i ih =>
    intro hi
    have h1 := ih (by omega)
    have h2 := totAt_succ (getI (l := l) (i := i) (by omega))
    have h3 := h _ (List.getElem_mem (l := l) (n := i) (by omega))
    rw [h2]
    omega
theorem totAt_mono {l : List OpV} {i : Nat} (h : i ≤ l.length) : totAt l i ≤ totAt l l.length := by
  have key : ∀ d, i + d ≤ l.length → totAt l i ≤ totAt l (i + d) := by
    intro d
    induction d with
    | zero => intro _; exact Nat.le_refl _
    | succ d ih =>
      intro hd
      have h1 := ih (by omega)
      have h2 := totAt_succ (getI (l := l) (i := i + d) (by omega))
      rw [show i + (d + 1) = i + d + 1 by omega, h2]
      omega
  have := key (l.length - i) (by omega)
  rwa [show i + (l.length - i) = l.length by omega] at this
theorem sameO_refl (o : OpV) : sameO o o = true := by simp [sameO]
theorem sameOps_refl : ∀ l : List OpV, sameOps l l = true
  | [] => rfl
  | o :: r => by
    show (sameO o o && sameOps r r) = true
    rw [sameO_refl, sameOps_refl r]
    rfl
theorem sameA_refl (s : Su) : sameA s s true = true := by simp [sameA]
def su64 (s : Su) : Prop := i64R s.x ∧ i64R s.y ∧ i64R s.d
end Go.Proofs.YtfcjlgdpdomoeaaGreat.U
