/- HistoryBack: the law answers true. -/
import Derived.Test.YtfcjlgdpdomoeaaGreatVE
set_option linter.unusedSimpArgs false
set_option linter.unusedVariables false
namespace Go.Proofs.YtfcjlgdpdomoeaaGreat.U
open Go Go.Eng
noncomputable abbrev l2D : List (Ctr Tryz.prog) := [awake_c, mod_c, scene_c, hbytes_c, hchk_c, read_c, hsame_c]
theorem law2_cF (l k : List Value) : law2_c.F l k = CFn.F (P := Tryz.prog) l2D law2_f l k := by kernel_rfl
theorem good_first : ∀ {l : List OpV}, (∀ o ∈ l, OpG o) → firstE l = 0
  | [], _ => rfl
  | o :: r, h => by
    show (if opE o.k o.s o.b o.n = 0 then firstE r else _) = 0
    rw [if_pos (h o (List.mem_cons_self ..)).1]
    exact good_first fun x hx => h x (List.mem_cons_of_mem _ hx)
theorem good_tot {l : List OpV} (h : ∀ o ∈ l, OpG o) : ∀ i, i ≤ l.length → totAt l i ≤ i * 1000 := by
  intro i
  induction i with
  | zero => intro _; exact Nat.zero_le _
  | succ i ih =>
    intro hi
    have h1 := ih (by omega)
    have h2 := totAt_succ (getI (l := l) (i := i) (by omega))
    have h3 := (h _ (List.getElem_mem (l := l) (n := i) (by omega))).2
    rw [h2]
    omega
theorem good_W {l : List OpV} (h : ∀ o ∈ l, OpG o) : ∀ o ∈ l, opW o := by
  intro o ho
  obtain ⟨h1, h2⟩ := h o ho
  obtain ⟨k1, k2, s1, s2, n1, n2, _⟩ := opE_0 h1
  exact ⟨⟨by omega, by omega⟩, ⟨by omega, by omega⟩, ⟨by omega, by omega⟩, by omega⟩
theorem eqT (t : List UInt8) : sev (.bin .neq) [sT t, sT t] = some (.bool false) := by
  show some (Value.bool (!(t == t))) = _
  rw [beq_self_eq_true]
  rfl
/-- HistoryBack answers true -/
theorem law2_F {a q cut : Int} {m : Int} (ha : i64R a) (hq : i64R q) (hcut : i64R cut) {V : Value} {c : List Int} (hC : IV V c) (hc64 : ∀ x ∈ c, i64R x) :
    law2_c.F [.int .i64 a, .int .i64 q, .int .i64 cut, .int .u8 m] [V] = some ([.bool true], noL) := by
  rw [law2_cF]
  refine CFn.flat (cs := l2D) (F := law2_f) _ rfl ?_
  refine Eq.trans (evK_es _ hC.len rfl) ?_
  refine Eq.trans (evK_t (decide ((c.length : Int) > 30)) rfl) ?_
  by_cases hc : c.length ≤ 30
  · rw [decide_eq_false (by omega), cond_false]
    obtain ⟨r, er, hr0, hr1⟩ := mod_S hq (m := 65536) (by omega)
    obtain ⟨s, l, es, hs, hl, hg⟩ := scene_F (q := 1 + r) ha (by omega) hC hc hc64
    have h64 := suS_64 hs
    have hF := suS_F hs
    have hW := good_W hg
    have hV := outV_V hW (by omega)
    have htot : l.length ≤ 400 → ∀ i, i ≤ l.length → totAt l i ≤ 65536 := fun _ i hi => by have := good_tot hg i hi; omega
    have hck : chk s l = 0 := by
      unfold chk
      rw [suS_ck hs, if_pos rfl, if_neg (by omega), good_first hg]
    have hlen : (headB s l.length ++ opsB l).length ≤ 40000 := by
      have h1 := opsB_len (l := l) l.length (Nat.le_refl _)
      have h2 := good_tot hg l.length (Nat.le_refl _)
      rw [List.take_length] at h1
      rw [List.length_append, headB_len]
      omega
    have hlen51 : 51 ≤ (headB s l.length ++ opsB l).length := by
      rw [List.length_append, headB_len]
      omega
    have hrd : ∀ o ∈ l, opE o.k o.s o.b o.n = 0 ∧ o.b.size ≤ 65536 := fun o ho => ⟨(hg o ho).1, Nat.le_trans (hg o ho).2 (by decide)⟩
    have rb := read_back h64 hF (by omega) hrd
    have rm := read_more h64 hF (by omega) hrd (r := [UInt8.ofNat m.toNat]) (by intro h; cases h)
    have rs : ∀ {n : Nat}, n < (toL (headB s l.length ++ opsB l)).length → rScript ((toL (headB s l.length ++ opsB l)).take n) = .error 7 := fun h => read_short h64 hF (by omega) hrd h
    have hb := hbytes_F s hV h64 htot
    have eb : bytesR s l = [sT (toL (headB s l.length ++ opsB l)), .int .i64 0] := by
      unfold bytesR
      rw [if_pos hck]
      rfl
    rw [eb] at hb
    have htl : (toL (headB s l.length ++ opsB l)).length = (headB s l.length ++ opsB l).length := by unfold toL; rw [List.length_map]
    generalize toL (headB s l.length ++ opsB l) = t at *
    have f1 := read_F (t := t) (by omega)
    have f2 := read_F (t := t ++ [UInt8.ofNat m.toNat]) (by rw [List.length_append, List.length_singleton]; omega)
    rw [rb] at f1
    rw [rm] at f2
    have e1 : readR (.ok ((s, l), [])) = (suL s ++ [.int .i64 0], [outV l]) := if_pos hck
    rw [e1] at f1
    have hh := hchk_F s hV h64.1 h64.2.1 h64.2.2 htot
    rw [hck] at hh
    have hsm : hsame_c.F (suL s ++ suL s) [outV l, outV l] = some ([.bool true], noL) := by
      rw [hsame_F s s hV hV, sameOps_refl, sameA_refl]
    obtain ⟨z, ez, hz0, hz1⟩ := mod_S hcut (m := (t.length : Int)) (by omega)
    obtain ⟨n, rfl⟩ : ∃ n : Nat, z = (n : Int) := ⟨z.toNat, by omega⟩
    have f3 := read_F (t := t.take n) (by rw [List.length_take]; omega)
    rw [rs (by omega)] at f3
    refine Eq.trans (evK_c [.int .i64 r] [] rfl er) ?_
    refine Eq.trans (evK_d (.int .i64 (1 + r)) (by
      show some (Value.int .i64 (IntKind.i64.wrap (1 + r))) = _
      rw [wrap_in (by unfold i64R; omega)])) ?_
    refine Eq.trans (evK_c (suL s) [outV l] rfl es) ?_
    refine Eq.trans (evK_c _ _ rfl hb) ?_
    refine Eq.trans (evK_t false rfl) ?_
    rw [cond_false]
    refine Eq.trans (evK_c _ _ rfl hh) ?_
    refine Eq.trans (evK_t false rfl) ?_
    rw [cond_false]
    refine Eq.trans (evK_c _ _ rfl f1) ?_
    refine Eq.trans (evK_c _ _ rfl hb) ?_
    refine Eq.trans (evK_t false rfl) ?_
    rw [cond_false]
    refine Eq.trans (evK_c _ _ rfl hsm) ?_
    refine Eq.trans (evK_d (.bool false) rfl) ?_
    refine Eq.trans (evK_t false rfl) ?_
    rw [cond_false]
    refine Eq.trans (evK_t false rfl) ?_
    rw [cond_false]
    refine Eq.trans (evK_t false (eqT t)) ?_
    rw [cond_false]
    refine Eq.trans (evK_d (sT [UInt8.ofNat m.toNat]) rfl) ?_
    refine Eq.trans (evK_d (sT (t ++ [UInt8.ofNat m.toNat])) (by
      show (bif Nat.ble (t.length + [UInt8.ofNat m.toNat].length) 1152921504606846976 then some (Value.string ⟨⟨t ++ [UInt8.ofNat m.toNat]⟩⟩) else none) = _
      rw [Nat.ble_eq_true_of_le (by rw [List.length_singleton]; omega)]
      rfl)) ?_
    refine Eq.trans (evK_c _ _ rfl f2) ?_
    refine Eq.trans (evK_d _ (len_sev t)) ?_
    refine Eq.trans (evK_d (.int .i64 (t.length : Int)) (by
      show some (Value.int .i64 (bif true then (if (t.length : Int) > 1 then (t.length : Int) else 1) else _)) = _
      rw [cond_true, if_pos (by omega)])) ?_
    refine Eq.trans (evK_c [.int .i64 (n : Int)] [] rfl ez) ?_
    refine Eq.trans (evK_d _ (sub_to t n (by omega))) ?_
    refine Eq.trans (evK_c _ _ rfl f3) ?_
    refine Eq.trans (evK_t true rfl) ?_
    rw [cond_true]
    refine Eq.trans (evK_t true rfl) ?_
    rw [cond_true]
    refine Eq.trans (evK_c [] [] rfl awake_F) ?_
    rfl
  · rw [decide_eq_true (by omega), cond_true]
    refine Eq.trans (evK_c [] [] rfl awake_F) ?_
    rfl
end Go.Proofs.YtfcjlgdpdomoeaaGreat.U
