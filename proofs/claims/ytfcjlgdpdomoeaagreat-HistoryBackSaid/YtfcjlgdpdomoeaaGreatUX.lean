/- HistoryRead: the law answers true. -/
import Derived.Test.YtfcjlgdpdomoeaaGreatUT
import Derived.Test.YtfcjlgdpdomoeaaGreatUC
set_option linter.unusedSimpArgs false
set_option linter.unusedVariables false
namespace Go.Proofs.YtfcjlgdpdomoeaaGreat.U
open Go Go.Eng
/-- a reader's errors are errors -/
def Ne0 {α : Type} (m : Rd α) : Prop := ∀ t e, m t = .error e → e ≠ 0
theorem Ne0.ret {α : Type} (a : α) : Ne0 (rRet a) := by
  intro t e h
  cases h
theorem Ne0.err {α : Type} {e : Int} (he : e ≠ 0) : Ne0 (rErr (α := α) e) := by
  intro t e' h
  cases h
  exact he
theorem Ne0.ite {α : Type} {c : Prop} [Decidable c] {m m' : Rd α} (h : Ne0 m) (h' : Ne0 m') : Ne0 (if c then m else m') := by
  split
  · exact h
  · exact h'
theorem Ne0.bnd {α β : Type} {m : Rd α} {f : α → Rd β} (hm : Ne0 m) (hf : ∀ a, Ne0 (f a)) : Ne0 (rBnd m f) := by
  intro t e h
  cases h1 : m t with
  | error e1 =>
    rw [rBnd_er h1] at h
    cases h
    exact hm t e h1
  | ok x =>
    obtain ⟨a, r⟩ := x
    rw [rBnd_at h1] at h
    exact hf a r e h
theorem Ne0.cut (n : Nat) : Ne0 (rCut n) := by
  intro t e h
  unfold rCut at h
  split at h
  · cases h
  · cases h
    decide
theorem Ne0.take (n : Nat) : Ne0 (rTake n) := (Ne0.cut n).bnd fun _ => .ret _
theorem Ne0.count : Ne0 rCount := (Ne0.take 4).bnd fun _ => .ite (.ret _) (.err (by decide))
theorem Ne0.num : Ne0 rNum := (Ne0.take 8).bnd fun _ => .ite ((Ne0.take 1).bnd fun _ => .ite (.ret _) (.err (by decide))) (.err (by decide))
theorem Ne0.op : Ne0 rOp := (Ne0.take 1).bnd fun _ => (Ne0.take 1).bnd fun _ => .ite (Ne0.count.bnd fun _ => .ite ((Ne0.cut _).bnd fun _ => .ret _) (.err (by decide))) (.ite (Ne0.count.bnd fun _ => .ret _) (.ret _))
theorem Ne0.ops : ∀ n, Ne0 (rOps n)
  | 0 => .ret _
  | n + 1 => Ne0.op.bnd fun _ => (Ne0.ops n).bnd fun _ => .ret _
theorem Ne0.head : Ne0 rHead := Ne0.num.bnd fun _ => Ne0.num.bnd fun _ => Ne0.num.bnd fun _ => Ne0.count.bnd fun _ => Ne0.count.bnd fun _ => Ne0.count.bnd fun _ => Ne0.count.bnd fun _ => Ne0.count.bnd fun _ => Ne0.count.bnd fun _ => .ite (.ret _) (.err (by decide))
theorem Ne0.body : Ne0 rBody := Ne0.head.bnd fun _ => (Ne0.ops _).bnd fun _ => .ret _
theorem Ne0.fin : Ne0 rEnd := by
  intro t e h
  unfold rEnd at h
  split at h
  · cases h
  · cases h
    decide
theorem Ne0.script : Ne0 rScript := Ne0.body.bnd fun _ => Ne0.fin.bnd fun _ => .ret _
theorem awake_F : awake_c.F [] [] = some (noL, noL) := by kernel_rfl
noncomputable abbrev l1D : List (Ctr Tryz.prog) := [awake_c, read_c, hbytes_c]
theorem law1_cF (l k : List Value) : law1_c.F l k = CFn.F (P := Tryz.prog) l1D law1_f l k := by kernel_rfl
/-- HistoryRead answers true -/
theorem law1_F (t : List UInt8) : law1_c.F [sT t] noL = some ([.bool true], noL) := by
  rw [law1_cF]
  refine CFn.flat (cs := l1D) (F := law1_f) _ rfl ?_
  refine Eq.trans (evK_d _ (len_sev t)) ?_
  refine Eq.trans (evK_t (decide ((t.length : Int) > 1000)) rfl) ?_
  by_cases ht : t.length ≤ 1000
  · rw [decide_eq_false (by omega), cond_false]
    have hr := read_F (t := t) (by omega)
    have zero : ∀ e : Int, read_c.F [sT t] noL = some (zeroL ++ [.int .i64 e], [.slice none 0 0]) → e ≠ 0 → evK l1D (CFn.K l1D law1_f 0) (match law1_T0 with | .d _ _ (.t _ _ _ b) => b | _ => .x) 2 0 ⟨upd (envL [sT t] noL).s 1 (.int .i64 (t.length : Int)), (envL [sT t] noL).l⟩ = some ([.bool true], noL) := by
      intro e h0 he
      refine Eq.trans (evK_c _ _ rfl h0) ?_
      refine Eq.trans (evK_t (e != 0) rfl) ?_
      rw [bne_iff_ne.2 he, cond_true]
      refine Eq.trans (evK_es (.int .i64 0) rfl rfl) ?_
      refine Eq.trans (evK_t true rfl) ?_
      rw [cond_true]
      refine Eq.trans (evK_c [] [] rfl awake_F) ?_
      rfl
    cases h1 : rScript t with
    | error e =>
      rw [h1] at hr
      exact zero e hr (Ne0.script _ _ h1)
    | ok x =>
      obtain ⟨⟨s, l⟩, r⟩ := x
      rw [h1] at hr
      obtain ⟨htl, hs, hn, hw, htot⟩ := inv_script h1
      by_cases h0 : chk s l = 0
      · have e : readR (.ok ((s, l), r)) = (suL s ++ [.int .i64 0], [outV l]) := if_pos h0
        rw [e] at hr
        have hb := hbytes_F s (outV_V hw hn) hs (fun _ i hi => by have := totAt_B l i hi; omega)
        have eb : bytesR s l = [sT t, .int .i64 0] := by
          unfold bytesR
          rw [if_pos h0]
          show [sT (toL (headB s l.length ++ opsB l)), .int .i64 0] = _
          rw [← htl]
        rw [eb] at hb
        refine Eq.trans (evK_c _ _ rfl hr) ?_
        refine Eq.trans (evK_t false rfl) ?_
        rw [cond_false]
        refine Eq.trans (evK_c _ _ rfl hb) ?_
        refine Eq.trans (evK_t true rfl) ?_
        rw [cond_true]
        refine Eq.trans (evK_t true (by show some (Value.bool (t == t)) = _; rw [beq_self_eq_true])) ?_
        rw [cond_true]
        refine Eq.trans (evK_c [] [] rfl awake_F) ?_
        rfl
      · have e : readR (.ok ((s, l), r)) = (zeroL ++ [.int .i64 (chk s l)], [.slice none 0 0]) := if_neg h0
        rw [e] at hr
        exact zero _ hr h0
  · rw [decide_eq_true (by omega), cond_true]
    refine Eq.trans (evK_c [] [] rfl awake_F) ?_
    rfl
end Go.Proofs.YtfcjlgdpdomoeaaGreat.U
