/- The engine: a deterministic run of the model's code on a logical memory, proved sound against 'Calls' (part 3). No condition. -/
import Derived.Test.YtkgfckenobmleaaGreatEngS2
import Derived.LoopN
import Derived.Scope
import Derived.Below
import Derived.Laws.Externs
import Derived.Recover
set_option linter.unusedSimpArgs false
set_option linter.unusedVariables false
/- A region that draws its order: each step, the end, the whole. -/
namespace Go.Eng
variable [SymV]
section
variable {P : Program} {X : ExtT} {call : CallT}
variable {ms ord : List Nat} {O : Nat → Oper} {F : Nat → LF} {M C : Nat → LMem} {V : Nat → Value} {H : Nat → List (Nat × (Nat → Option LB))}
variable {φ0 φ : Phi} {w0 w : World} {a0 a : Act} {listed : Array Bool} {p : Nat} {ops : Array Oper} {j q : Nat}

/-- all that the region's run has fixed -/
structure Ctx (P : Program) (X : ExtT) (call : CallT) (ops : Array Oper) (ms ord : List Nat) (O : Nat → Oper) (F : Nat → LF) (M C : Nat → LMem) (V : Nat → Value) (H : Nat → List (Nat × (Nat → Option LB))) : Prop where
  hP : POK P X
  hc : CallSound P call
  hG : RegOK ops.toList ms ord
  hms : ms = masks ops.toList []
  hR : DRun P X call ops.toList ms ord O F M C V H
  hn : LFok (F 0)
  hw : WF (M 0)
  hC : C 0 = M 0

/-- positions between p and q without an effect -/
theorem mrp_same (c : Ctx P X call ops ms ord O F M C V H) (hI : DInv P ops.toList ord O F M V φ0 w0 a0 listed a w p φ) (hq : q ≤ ord.length) (hpq : p ≤ q) (hne : ∀ q', p ≤ q' → q' < q → ¬ isE ops.toList O F q') : MRp φ (M q).get w := by
  intro id b hb
  obtain ⟨hwq, hmono⟩ := run_wf c.hP c.hc c.hR c.hw q hq
  have hbt := mem_between c.hP c.hc c.hR c.hw q hpq hq hne
  refine ⟨fun l hl => ?_, fun hd hn => ?_, fun hd hn => ?_⟩
  · rcases hI.live id l hl with ⟨h1, b', h2, h3⟩ | ⟨q', h1, h2, h3, h4, b', h5, h6⟩
    · rw [hbt id h1, h2] at hb; cases hb; exact h3
    · have hq'n := sel_lt h2
      obtain ⟨i, hi⟩ := ord_at (ord := ord) hq'n
      obtain ⟨hwq', _⟩ := run_wf c.hP c.hc c.hR c.hw q' (by omega)
      obtain ⟨_, _, _, k3, _⟩ := alc_at c.hR hi hwq' h3
      rcases Nat.lt_or_ge q' q with hlt | hge
      · have := mem_between c.hP c.hc c.hR c.hw (p := q' + 1) q (by omega) hq (fun x hx hx' => hne x (by omega) hx') id (by omega)
        rw [this, h5] at hb; cases hb; exact h6
      · obtain ⟨_, hm'⟩ := run_wf c.hP c.hc c.hR c.hw q' (by omega)
        have := hm' q hge
        rw [LMem.get_none (by omega)] at hb; cases hb
  · obtain ⟨h1, h2, _⟩ := hI.dead id hd
    rw [hbt id h1, h2 hn] at hb; cases hb; rfl
  · obtain ⟨h1, _, h2⟩ := hI.dead id hd
    obtain ⟨ro, k, s, q1, q2⟩ := h2 hn
    rw [hbt id h1, q1] at hb; cases hb; exact ⟨ro, k, s, rfl, q2⟩

/-- the first effect at or behind p and before q -/
theorem first_eff (O : Nat → Oper) (F : Nat → LF) (L : List Oper) (p : Nat) : ∀ q, p ≤ q → (∀ q', p ≤ q' → q' < q → ¬ isE L O F q') ∨ ∃ e, p ≤ e ∧ e < q ∧ isE L O F e ∧ ∀ q', p ≤ q' → q' < e → ¬ isE L O F q' := by
  have _s := SymV.val
  intro q
  induction q with
  | zero => intro h; exact .inl fun q' _ h' => by omega
  | succ q ih =>
    intro h
    by_cases he : p = q + 1
    · exact .inl fun q' h1 h2 => by omega
    · rcases ih (by omega) with h1 | ⟨e, h1, h2, h3, h4⟩
      · by_cases hq : isE L O F q
        · exact .inr ⟨q, by omega, by omega, hq, h1⟩
        · refine .inl fun q' ha hb => ?_
          by_cases hqq : q' = q
          · rw [hqq]; exact hq
          · exact h1 q' ha (by omega)
      · exact .inr ⟨e, h1, by omega, h3, h4⟩

/-- the invariant where nothing but a temporary changes -/
theorem inv_quiet (c : Ctx P X call ops ms ord O F M C V H) (hI : DInv P ops.toList ord O F M V φ0 w0 a0 listed a w p φ) (hr : Rdy ops.toList ms ord O listed p j q) (hne : ¬ isE ops.toList O F q) {v' : Value} (hv : VR φ (V q) v') :
    DInv P ops.toList ord O F M V φ0 w0 a0 (listed.setIfInBounds j true) (a.put (O q).dst v') w p φ := by
  have hsel := sel_set c.hG hI.size hr
  obtain ⟨t1, t2⟩ := tmps_put c.hG c.hms c.hR c.hn hI hr (Ext.refl φ) hv
  refine ⟨by simp [hI.size], cl_set hI hr, hI.ple, hI.pform, fun k hk => ?_, fun k hk hs => ?_, t1, t2, by rw [put_defers]; exact hI.defers, fun id l hl => ?_, hI.dead, hI.inj, hI.sim, hI.pin⟩
  · rw [hsel k]; split
    · rfl
    · exact hI.below k hk
  · rw [hsel k] at hs
    by_cases he : k = q
    · rw [he]; exact hne
    · rw [if_neg he] at hs; exact hI.above k hk hs
  · rcases hI.live id l hl with h | ⟨q', h1, h2, h3⟩
    · exact .inl h
    · refine .inr ⟨q', h1, ?_, h3⟩
      rw [hsel q']; split
      · rfl
      · exact h2

theorem quiet_run (c : Ctx P X call ops ms ord O F M C V H) (hI : DInv P ops.toList ord O F M V φ0 w0 a0 listed a w p φ) (hr : Rdy ops.toList ms ord O listed p j q)
    (hq : qop P (M q).get (F q).lev (O q) = some (V q)) (hs : (looks (O q).op || looksR (F q).lev (O q).op) = false ∨ stable P (F q) (O q) (V q) (ms.getD j 0) (H q) = true) :
    ∃ v', (execOp a.eval (O q)).run P w = .ok (.value v') w ∧ VR φ (V q) v' := by
  have hql : q < ord.length := (List.getElem?_eq_some_iff.1 hr.at_).1
  have hρ := operand_at c.hG c.hms c.hR c.hn hI hr
  cases hlk : (looks (O q).op || looksR (F q).lev (O q).op) with
  | false =>
    have hq' : qop P (fun _ => none) (F q).lev (O q) = some (V q) := by rw [qop_pure (g' := (M q).get) (Bool.or_eq_false_iff.1 hlk).1 (Bool.or_eq_false_iff.1 hlk).2]; exact hq
    exact qsim (P := P) (fun id b hb => by cases hb) hI.pin hρ hq'
  | true =>
    rw [hlk] at hs
    have hs := hs.resolve_left (by simp)
    rcases first_eff O F ops.toList p q hr.ge with hno | ⟨e, h1, h2, h3, h4⟩
    · exact qsim (P := P) (mrp_same c hI (by omega) hr.ge hno) hI.pin hρ hq
    · obtain ⟨i, l1, l2, G, g1, g2, g3, g4, g5, g6⟩ := hist_at c.hP c.hc c.hR c.hw h3 q h2 (by omega)
      have hun : ∀ e', p ≤ e' → isE ops.toList O F e' → ∀ i', ord[e']? = some i' → tb (ms.getD j 0) i' = false := by
        intro e' he' hE i' hi'
        cases htb : tb (ms.getD j 0) i' with
        | false => rfl
        | true =>
          have := hr.anc i' htb
          exact absurd hE (hI.above e' he' (by rw [sel_at hi']; exact this))
      rw [g2] at hs
      have hqop := stable_at hs (fun x hx => by
        obtain ⟨e', k1, k2, k3, k4⟩ := g3 x hx
        exact hun e' (by omega) k3 x.1 k4) (hun e h1 h3 i g1)
      refine qsim (P := P) ?_ hI.pin hρ hqop
      -- the memory ahead of the effect, with the blocks made since
      obtain ⟨hwe, hme⟩ := run_wf c.hP c.hc c.hR c.hw e (by omega)
      have hbt := mem_between c.hP c.hc c.hR c.hw e h1 (by omega) h4
      have hpe := hme p h1
      intro id b hb
      refine ⟨fun l hl => ?_, fun hd hn => ?_, fun hd hn => ?_⟩
      · rcases hI.live id l hl with ⟨k1, b', k2, k3⟩ | ⟨q', k1, k2, k3, k4, b', k5, k6⟩
        · rw [g4 id (by omega), hbt id k1, k2] at hb
          cases hb; exact k3
        · have hq'n := sel_lt k2
          obtain ⟨i', hi'⟩ := ord_at (ord := ord) hq'n
          obtain ⟨hwq', _⟩ := run_wf c.hP c.hc c.hR c.hw q' (by omega)
          obtain ⟨_, _, _, a3, _⟩ := alc_at c.hR hi' hwq' k3
          have hne : q' ≠ e := fun h => by rw [h] at k3; have := k3.2.1; rw [h3.2] at this; cases this
          have hnq : q' ≠ q := fun h => by rw [h] at k2; rw [hr.un] at k2; cases k2
          rcases Nat.lt_or_ge q' e with hlt | hge
          · have := mem_between c.hP c.hc c.hR c.hw (p := q' + 1) e (by omega) (by omega) (fun x hx hx' => h4 x (by omega) hx') id (by omega)
            have hl := hme (q' + 1) (by omega)
            rw [g4 id (by omega), this, k5] at hb
            cases hb; exact k6
          · rcases Nat.lt_or_ge q' q with hlt | hge2
            · have := g5 q' (by omega) hlt k3
              rw [k4, this, ← k4, k5] at hb
              cases hb; exact k6
            · exfalso
              obtain ⟨_, hmq'⟩ := run_wf c.hP c.hc c.hR c.hw q' (by omega)
              have := hmq' q (by omega)
              -- a number that is not there yet
              exact g6 id (by omega) b hb
      · obtain ⟨k1, k2, _⟩ := hI.dead id hd
        rw [g4 id (by omega), hbt id k1, k2 hn] at hb; cases hb; rfl
      · obtain ⟨k1, _, k2⟩ := hI.dead id hd
        obtain ⟨ro, k, s, q1, q2⟩ := k2 hn
        rw [g4 id (by omega), hbt id k1, q1] at hb; cases hb; exact ⟨ro, k, s, rfl, q2⟩

/-- a block made at q has a number of its own -/
theorem alc_fresh (c : Ctx P X call ops ms ord O F M C V H) (hI : DInv P ops.toList ord O F M V φ0 w0 a0 listed a w p φ) (hr : Rdy ops.toList ms ord O listed p j q) {N : Nat} (hN1 : (M q).next ≤ N) (hN2 : N < (M (q + 1)).next) : φ N = none := by
  have hql : q < ord.length := (List.getElem?_eq_some_iff.1 hr.at_).1
  cases he : φ N with
  | none => rfl
  | some x =>
    exfalso
    obtain ⟨hwq, hmq⟩ := run_wf c.hP c.hc c.hR c.hw q (by omega)
    have hpq := hmq p hr.ge
    cases x with
    | none =>
      obtain ⟨h1, _⟩ := hI.dead N he
      omega
    | some l =>
      rcases hI.live N l he with ⟨h1, _⟩ | ⟨q', h1, h2, h3, h4, _⟩
      · omega
      · have hq'n := sel_lt h2
        obtain ⟨i, hi⟩ := ord_at (ord := ord) hq'n
        obtain ⟨hwq', hmq'⟩ := run_wf c.hP c.hc c.hR c.hw q' (by omega)
        obtain ⟨_, _, _, k3, _⟩ := alc_at c.hR hi hwq' h3
        have hne : q' ≠ q := fun h => by rw [h] at h2; rw [hr.un] at h2; cases h2
        rcases Nat.lt_or_ge q' q with hlt | hge
        · have := hmq (q' + 1) (by omega); omega
        · have := hmq' (q + 1) (by omega); omega

theorem inv_alc (c : Ctx P X call ops ms ord O F M C V H) (hI : DInv P ops.toList ord O F M V φ0 w0 a0 listed a w p φ) (hr : Rdy ops.toList ms ord O listed p j q) (ha : isA P ops.toList O F q) :
    ∃ v' obj, ∃ wz : World, ∃ φ', (execOp a.eval (O q)).run P w = .ok (.value v') (wz.alloc obj) ∧ DInv P ops.toList ord O F M V φ0 w0 a0 (listed.setIfInBounds j true) (a.put (O q).dst v') (wz.alloc obj) p φ' := by
  have hql : q < ord.length := (List.getElem?_eq_some_iff.1 hr.at_).1
  obtain ⟨hwq, hmq⟩ := run_wf c.hP c.hc c.hR c.hw q (by omega)
  obtain ⟨b, k1, k2, k3, k4⟩ := alc_at c.hR hr.at_ hwq ha
  have hfr := alc_fresh c hI hr (N := (M q).next) (Nat.le_refl _) (by omega)
  obtain ⟨v', obj, l, wz, g0, g1, g2, g3, g4⟩ := asim (P := P) (w := w) hfr (operand_at c.hG c.hms c.hR c.hn hI hr) k1
  obtain ⟨e1, e2, e3, e4⟩ : wz.heap = w.heap ∧ wz.os = w.os ∧ wz.tape = w.tape ∧ wz.output = w.output := by rcases g0 with rfl | rfl <;> exact ⟨rfl, rfl, rfl, rfl⟩
  have hext := ins_ext (l := l) hfr
  have hsel := sel_set c.hG hI.size hr
  obtain ⟨t1, t2⟩ := tmps_put c.hG c.hms c.hR c.hn hI hr hext g3
  have hrange : ∀ id l', φ id = some (some l') → l'.b < w.heap.size := fun id l' hl' => by
    rcases hI.live id l' hl' with ⟨_, b', _, h3⟩ | ⟨_, _, _, _, _, b', _, h3⟩
    · exact h3.lt
    · exact h3.lt
  have hold : ∀ k, k < w.heap.size → (wz.alloc obj).heap[k]? = w.heap[k]? := fun k hk => by rw [heap_alloc_lt wz obj k (by rw [e1]; exact hk), e1]
  refine ⟨v', obj, wz, ins φ (M q).next l, g1, ⟨by simp [hI.size], cl_set hI hr, hI.ple, hI.pform, fun k hk => ?_, fun k hk hs => ?_, t1, t2, by rw [put_defers]; exact hI.defers, fun id l' hl' => ?_, fun id hd => ?_, fun id jd l1 l2 h1 h2 h3 => ?_, ?_, hI.pin.mono' rfl (fun id l' hl' => ?_) fun k _ hk _ => hold k hk⟩⟩
  · rw [hsel k]; split
    · rfl
    · exact hI.below k hk
  · rw [hsel k] at hs
    by_cases he : k = q
    · rw [he]; exact fun h => by have := h.2; rw [ha.2.1] at this; cases this
    · rw [if_neg he] at hs; exact hI.above k hk hs
  · by_cases hid : id = (M q).next
    · subst hid
      rw [ins_same] at hl'; cases hl'
      exact .inr ⟨q, hr.ge, by rw [hsel q, if_pos rfl], ha, rfl, b, k4, g4⟩
    · rw [ins_other hid] at hl'
      have hlt := hrange id l' hl'
      rcases hI.live id l' hl' with ⟨h1, b', h2, h3⟩ | ⟨q', h1, h2, h3, h4, b', h5, h6⟩
      · exact .inl ⟨h1, b', h2, h3.mono hext (hold _ hlt)⟩
      · refine .inr ⟨q', h1, ?_, h3, h4, b', h5, h6.mono hext (hold _ hlt)⟩
        rw [hsel q']; split
        · rfl
        · exact h2
  · have hid : id ≠ (M q).next := fun h => by rw [h, ins_same] at hd; cases hd
    rw [ins_other hid] at hd
    exact hI.dead id hd
  · by_cases hid : id = (M q).next
    · by_cases hjd : jd = (M q).next
      · rw [hid, hjd]
      · subst hid
        rw [ins_same] at h1; cases h1
        rw [ins_other hjd] at h2
        have := hrange jd l2 h2
        omega
    · by_cases hjd : jd = (M q).next
      · subst hjd
        rw [ins_same] at h2; cases h2
        rw [ins_other hid] at h1
        have := hrange id l1 h1
        omega
      · rw [ins_other hid] at h1; rw [ins_other hjd] at h2
        exact hI.inj id jd l1 l2 h1 h2 h3
  · refine hI.sim.trans (n' := (M 0).next) (Nat.le_refl _) ⟨hext, fun id l' hl' => ?_, fun id hid h0 => ?_, fun _ _ h => .inl h, ⟨e2, e3, e4, by simp [e1], fun k hk _ => hold k hk⟩⟩
    · by_cases hid : id = (M q).next
      · subst hid; rw [ins_same] at hl'; cases hl'; exact .inr (by omega)
      · rw [ins_other hid] at hl'; exact .inl ⟨id, l', hl', rfl⟩
    · have := hmq 0 (Nat.zero_le _)
      rw [ins_other (by omega)]; exact h0
  · by_cases hid : id = (M q).next
    · subst hid; rw [ins_same] at hl'; cases hl'; exact .inr (by omega)
    · rw [ins_other hid] at hl'; exact .inl ⟨id, l', hl', rfl⟩

theorem inv_eff (c : Ctx P X call ops ms ord O F M C V H) (hI : DInv P ops.toList ord O F M V φ0 w0 a0 listed a w p φ) (hr : Rdy ops.toList ms ord O listed p j q) (he : isE ops.toList O F q)
    (K : Act → World → Prop) (Q : Exit → Act → World → Prop)
    (hK : ∀ φ' w' v', DInv P ops.toList ord O F M V φ0 w0 a0 (listed.setIfInBounds j true) (a.put (O q).dst v') w' (q + 1) φ' → K (a.put (O q).dst v') w') : (O q).wp P a w K Q := by
  have hql : q < ord.length := (List.getElem?_eq_some_iff.1 hr.at_).1
  obtain ⟨hwq, hmq⟩ := run_wf c.hP c.hc c.hR c.hw q (by omega)
  obtain ⟨hwq1, hmq1⟩ := run_wf c.hP c.hc c.hR c.hw (q + 1) (by omega)
  have hN : (M q).next < 1152921504606846976 := by have := hwq.room; omega
  -- all that is ahead of q has come up
  have hall : ∀ q', q' < q → sel ord listed q' = true := by
    intro q' hq'
    obtain ⟨i, hi⟩ := ord_at (ord := ord) (q := q') (by omega)
    rw [sel_at hi]
    exact hr.anc i (c.hG.eff q j (O q) hr.at_ hr.op he.2 q' i hq' hi)
  have hno : ∀ q', p ≤ q' → q' < q → ¬ isE ops.toList O F q' := fun q' h1 h2 => hI.above q' h1 (hall q' h2)
  have hbt := mem_between c.hP c.hc c.hR c.hw q hr.ge (by omega) hno
  have hpart := mrp_same c hI (by omega) hr.ge hno
  have hrange : ∀ id l', φ id = some (some l') → l'.b < w.heap.size := fun id l' hl' => by
    rcases hI.live id l' hl' with ⟨_, b', _, h3⟩ | ⟨_, _, _, _, _, b', _, h3⟩
    · exact h3.lt
    · exact h3.lt
  have hpn := hmq p hr.ge
  -- the blocks below (M q).next
  have hcut : ∀ id x, cut φ (M q).next id = some x → id < (M q).next ∧ φ id = some x := by
    intro id x hx
    by_cases hid : id < (M q).next
    · rw [cut_at hid] at hx; exact ⟨hid, hx⟩
    · rw [cut_none (by omega)] at hx; cases hx
  have hmr : MR (cut φ (M q).next) (M q).get w := by
    refine ⟨fun id l hl => ?_, fun id hd hn => ?_, fun id hd hn => ?_, fun id jd l l' h1 h2 h3 => ?_, hI.pin.sub rfl fun id l hl => ⟨id, l, (hcut id _ hl).2, rfl⟩⟩
    · obtain ⟨hid, hl'⟩ := hcut id _ hl
      have hsome : ∃ b, (M q).get id = some b := by
        rcases hI.live id l hl' with ⟨h1, b', h2, h3⟩ | ⟨q', h1, h2, h3, h4, b', h5, h6⟩
        · exact ⟨b', by rw [hbt id h1]; exact h2⟩
        · have hq'n := sel_lt h2
          obtain ⟨i, hi⟩ := ord_at (ord := ord) hq'n
          obtain ⟨hwq', hmq'⟩ := run_wf c.hP c.hc c.hR c.hw q' (by omega)
          obtain ⟨_, _, _, k3, _⟩ := alc_at c.hR hi hwq' h3
          rcases Nat.lt_or_ge q' q with hlt | hge
          · refine ⟨b', ?_⟩
            rw [mem_between c.hP c.hc c.hR c.hw (p := q' + 1) q (by omega) (by omega) (fun x hx hx' => hno x (by omega) hx') id (by omega)]
            exact h5
          · have := hmq' q hge; omega
      obtain ⟨b, hb⟩ := hsome
      exact ⟨b, hb, ((hpart id b hb).1 l hl').cut hN (hwq.closed id b hb)⟩
    · obtain ⟨hid, hd'⟩ := hcut id _ hd
      obtain ⟨h1, h2, _⟩ := hI.dead id hd'
      rw [hbt id h1]; exact h2 hn
    · obtain ⟨hid, hd'⟩ := hcut id _ hd
      obtain ⟨h1, _, h2⟩ := hI.dead id hd'
      rw [hbt id h1]; exact h2 hn
    · exact hI.inj id jd l l' (hcut id _ h1).2 (hcut jd _ h2).2 h3
  have hbd : Bd (cut φ (M q).next) (M q).next := fun id hid => by
    rcases Nat.lt_or_ge id (M q).next with h | h
    · exact h
    · rw [cut_none h] at hid; exact absurd rfl hid
  cases hR : c.hR.step q j hr.at_ with
  | skip h => rw [he.1] at h; cases h
  | alc _ h => rw [he.2] at h; cases h
  | quiet _ h => rw [he.2] at h; cases h
  | eff _ _ hub hd hC hH =>
    have hρ : ∀ x ∈ (O q).op.operands.toList, VR (cut φ (M q).next) ((F q).lev x) (a.eval x) := by
      intro x hx
      have hv := operand_at c.hG c.hms c.hR c.hn hI hr x hx
      refine hv.cut hN 7 ?_
      have hok : okOperand x = true := List.all_eq_true.1 (List.all_eq_true.1 c.hG.ok (O q) (List.mem_of_getElem? hr.op)) x hx
      cases x with
      | tmp t => exact hub t (List.mem_append_left _ (List.mem_filterMap.2 ⟨.tmp t, hx, rfl⟩))
      | const v => have := Nat.eq_of_beq_eq_true hok; show ub v ≤ _; omega
      | global g => cases hok
      | func g => exact Nat.zero_le _
    obtain ⟨_, hgive⟩ := doEff_sim c.hP c.hc hwq hd
    refine hgive _ w a hmr hbd hρ K Q fun φ2 w' v' hs hv hm2 hb2 => ?_
    have hb2n : ∀ id x, φ2 id = some x → id < (M (q + 1)).next := fun id x hx => hb2 id (by rw [hx]; simp)
    have hle : (M q).next ≤ (M (q + 1)).next := hmq1 q (by omega)
    have hfresh : ∀ N, (M q).next ≤ N → N < (M (q + 1)).next → φ N = none := fun N h1 h2 => alc_fresh c hI hr h1 h2
    -- the new map of blocks
    have hphi : ∃ φ' : Phi, (∀ id, id < (M (q + 1)).next → φ' id = φ2 id ∧ φ'.nl id = φ2.nl id) ∧ (∀ id, (M (q + 1)).next ≤ id → φ' id = φ id ∧ φ'.nl id = φ.nl id) ∧ φ'.fz = φ2.fz :=
      ⟨⟨fun id => if id < (M (q + 1)).next then φ2 id else φ id, φ2.fz, fun id => if id < (M (q + 1)).next then φ2.nl id else φ.nl id⟩, fun id h => by simp [h], fun id h => by simp [Nat.not_lt.2 h], rfl⟩
    obtain ⟨φ', hlo', hhi', hfz⟩ := hphi
    have hlo : ∀ id, id < (M (q + 1)).next → φ' id = φ2 id := fun id h => (hlo' id h).1
    have hhi : ∀ id, (M (q + 1)).next ≤ id → φ' id = φ id := fun id h => (hhi' id h).1
    have hext : Ext φ φ' := by
      refine ⟨fun id hid => ?_, fun b o hb => by rw [hfz]; exact hs.ext.fz b o hb, fun id hid h1 h2 => ?_⟩
      · rcases Nat.lt_or_ge id (M (q + 1)).next with h | h
        · rw [hlo id h]
          rcases Nat.lt_or_ge id (M q).next with h' | h'
          · have := hs.ext.ids id (by rw [cut_at h']; exact hid)
            rw [cut_at h'] at this; exact this
          · exact absurd (hfresh id h' h) hid
        · exact .inl (hhi id h)
      · rcases Nat.lt_or_ge id (M (q + 1)).next with h | h
        · rw [hlo id h] at h1
          rw [(hlo' id h).2] at h2
          rcases Nat.lt_or_ge id (M q).next with h' | h'
          · have := hs.ext.nl id (by rw [cut_at h']; exact hid) h1 h2
            rw [cut_at h'] at this; exact this
          · exact absurd (hfresh id h' h) hid
        · rw [hhi id h] at h1
          rw [(hhi' id h).2] at h2
          exact ⟨h1, h2⟩
    have hext2 : Ext φ2 φ' := ⟨fun id hid => .inl (hlo id (hb2 id hid)), fun b o hb => by rw [hfz]; exact hb, fun id hid h1 h2 => by
      have h := hb2 id hid
      rw [hlo id h] at h1
      rw [(hlo' id h).2] at h2
      exact ⟨h1, h2⟩⟩
    have hsel := sel_set c.hG hI.size hr
    obtain ⟨t1, t2⟩ := tmps_put c.hG c.hms c.hR c.hn hI hr hext (hv.mono hext2)
    -- blocks beyond
    have hbeyond : ∀ id l', (M (q + 1)).next ≤ id → φ id = some (some l') → w'.heap[l'.b]? = w.heap[l'.b]? := by
      intro id l' hid hl'
      refine hs.fr.same _ (hrange id l' hl') fun jd l2 hl2 heq => ?_
      obtain ⟨hjd, hl2'⟩ := hcut jd _ hl2
      have := hI.inj jd id l2 l' hl2' hl' heq
      omega
    refine hK φ' w' v' ⟨by simp [hI.size], cl_set hI hr, by omega, .inr (by simpa using he), fun k hk => ?_, fun k hk hs' => ?_, t1, t2, by rw [put_defers]; exact hI.defers, fun id l' hl' => ?_, fun id hd' => ?_, fun id jd l1 l2 h1 h2 h3 => ?_, ?_, ?_⟩
    · rw [hsel k]; split
      · rfl
      · exact hall k (by omega)
    · rw [hsel k, if_neg (by omega)] at hs'
      exact hI.above k (by have := hr.ge; omega) hs'
    · rcases Nat.lt_or_ge id (M (q + 1)).next with h | h
      · rw [hlo id h] at hl'
        obtain ⟨b, g1, g2⟩ := hm2.live id l' hl'
        exact .inl ⟨h, b, g1, g2.mono hext2 rfl⟩
      · rw [hhi id h] at hl'
        rcases hI.live id l' hl' with ⟨h1, _⟩ | ⟨q', h1, h2, h3, h4, b', h5, h6⟩
        · omega
        · have hq'n := sel_lt h2
          obtain ⟨i, hi⟩ := ord_at (ord := ord) hq'n
          obtain ⟨hwq', hmq'⟩ := run_wf c.hP c.hc c.hR c.hw q' (by omega)
          obtain ⟨_, _, _, k3, _⟩ := alc_at c.hR hi hwq' h3
          have hqq : q + 1 ≤ q' := by
            rcases Nat.lt_or_ge q' (q + 1) with hlt | hge
            · exfalso
              have hne : q' ≠ q := fun hx => by rw [hx] at h3; have := h3.2.1; rw [he.2] at this; cases this
              have := hmq (q' + 1) (by omega)
              omega
            · exact hge
          refine .inr ⟨q', hqq, ?_, h3, h4, b', h5, h6.mono hext (hbeyond id l' h hl')⟩
          rw [hsel q']; split
          · rfl
          · exact h2
    · rcases Nat.lt_or_ge id (M (q + 1)).next with h | h
      · rw [hlo id h] at hd'
        exact ⟨h, fun hn => hm2.dead id hd' (by rw [← (hlo' id h).2]; exact hn), fun hn => hm2.nils id hd' (by rw [← (hlo' id h).2]; exact hn)⟩
      · rw [hhi id h] at hd'
        have := (hI.dead id hd').1
        omega
    · have mixed : ∀ id jd l1 l2, id < (M (q + 1)).next → (M (q + 1)).next ≤ jd → φ2 id = some (some l1) → φ jd = some (some l2) → l1.b = l2.b → False := by
        intro id jd l1 l2 hid hjd h1 h2 h3
        have hlt := hrange jd l2 h2
        rcases hs.new id l1 h1 with ⟨kd, l0, g1, g2⟩ | g1
        · obtain ⟨hkd, g1'⟩ := hcut kd _ g1
          have := hI.inj kd jd l0 l2 g1' h2 (g2.trans h3)
          omega
        · omega
      rcases Nat.lt_or_ge id (M (q + 1)).next with h | h
      · rw [hlo id h] at h1
        rcases Nat.lt_or_ge jd (M (q + 1)).next with h' | h'
        · rw [hlo jd h'] at h2; exact hm2.inj id jd l1 l2 h1 h2 h3
        · rw [hhi jd h'] at h2; exact (mixed id jd l1 l2 h h' h1 h2 h3).elim
      · rw [hhi id h] at h1
        rcases Nat.lt_or_ge jd (M (q + 1)).next with h' | h'
        · rw [hlo jd h'] at h2; exact (mixed jd id l2 l1 h' h h2 h1 h3.symm).elim
        · rw [hhi jd h'] at h2; exact hI.inj id jd l1 l2 h1 h2 h3
    · refine hI.sim.trans (n' := (M 0).next) (Nat.le_refl _) ⟨hext, fun id l' hl' => ?_, fun id hid h0 => ?_, fun b o hb => ?_, ⟨hs.fr.os, hs.fr.tape, hs.fr.output, hs.fr.size, fun k hk hk' => ?_⟩⟩
      · rcases Nat.lt_or_ge id (M (q + 1)).next with h | h
        · rw [hlo id h] at hl'
          rcases hs.new id l' hl' with ⟨kd, l0, g1, g2⟩ | g1
          · exact .inl ⟨kd, l0, (hcut kd _ g1).2, g2⟩
          · exact .inr g1
        · rw [hhi id h] at hl'; exact .inl ⟨id, l', hl', rfl⟩
      · have hm0 := hmq 0 (Nat.zero_le _)
        rw [hlo id (by omega)]
        exact hs.un id (by omega) (by rw [cut_at (by omega)]; exact h0)
      · rw [hfz] at hb
        rcases hs.fz b o hb with h | ⟨jd, l0, g1, g2⟩ | h
        · exact .inl h
        · exact .inr (.inl ⟨jd, l0, (hcut jd _ g1).2, g2⟩)
        · exact .inr (.inr h)
      · exact hs.fr.same k hk fun id l hl => hk' id l (hcut id _ hl).2
    · refine ⟨fun b o hb => hm2.pin.at_ b o (by rw [← hfz]; exact hb), fun b o hb id l hl heq => ?_⟩
      rw [hfz] at hb
      rcases Nat.lt_or_ge id (M (q + 1)).next with h | h
      · rw [hlo id h] at hl
        exact hm2.pin.off b o hb id l hl heq
      · rw [hhi id h] at hl
        rcases hs.fz b o hb with h' | ⟨jd, l0, g1, g2⟩ | h'
        · exact hI.pin.off b o h' id l hl heq
        · obtain ⟨hjd, g1'⟩ := hcut jd _ g1
          have := hI.inj jd id l0 l g1' hl (g2.trans heq.symm)
          omega
        · have := hrange id l hl; omega
end
end Go.Eng
/- The engine is sound: drawn regions, code, calls. -/
namespace Go.Eng
variable [SymV]
section
variable {P : Program} {X : ExtT} {call : CallT}
variable {ms ord : List Nat} {O : Nat → Oper} {F : Nat → LF} {M C : Nat → LMem} {V : Nat → Value} {H : Nat → List (Nat × (Nat → Option LB))}
variable {φ0 φ : Phi} {w0 w : World} {a0 a : Act} {listed : Array Bool} {p : Nat} {ops : Array Oper} {j q : Nat}

/-- how many positions have not come up -/
def cU (S : Nat → Bool) : Nat → Nat
  | 0 => 0
  | k + 1 => cU S k + (if S k = true then 0 else 1)

theorem cU_zero {S : Nat → Bool} : ∀ {n : Nat}, cU S n = 0 → ∀ q, q < n → S q = true
  | 0, _, q, h => by have _s := SymV.val; have _s := SymV.val; omega
  | n + 1, h, q, hq => by
    simp only [cU] at h
    by_cases hs : S n = true
    · by_cases he : q = n
      · rw [he]; exact hs
      · exact cU_zero (n := n) (by omega) q (by omega)
    · simp [hs] at h

theorem cU_set {S S' : Nat → Bool} {q : Nat} (hq : S q = false) (hs : ∀ k, S' k = if k = q then true else S k) : ∀ {n : Nat}, (q < n → cU S' n + 1 = cU S n) ∧ (n ≤ q → cU S' n = cU S n)
  | 0 => by have _s := SymV.val; exact ⟨fun h => by omega, fun _ => rfl⟩
  | n + 1 => by
    obtain ⟨h1, h2⟩ := cU_set hq hs (n := n)
    refine ⟨fun h => ?_, fun h => ?_⟩
    · simp only [cU]
      by_cases he : q = n
      · subst he
        rw [hs q, hq, h2 (Nat.le_refl _)]; simp
      · rw [hs n, if_neg (Ne.symm he)]
        have := h1 (by omega)
        omega
    · have hn : S' n = S n := by rw [hs n, if_neg (by omega)]
      simp only [cU]
      rw [hn, h2 (by omega)]

theorem cU_pos {S : Nat → Bool} : ∀ {n : Nat}, cU S n ≠ 0 → ∃ q, q < n ∧ S q = false ∧ ∀ k, k < q → S k = true
  | 0, h => by simp [cU] at h
  | n + 1, h => by
    by_cases h0 : cU S n = 0
    · refine ⟨n, by omega, ?_, cU_zero h0⟩
      simp only [cU, h0] at h
      cases hs : S n
      · rfl
      · simp [hs] at h
    · obtain ⟨q, h1, h2, h3⟩ := cU_pos h0
      exact ⟨q, by omega, h2, h3⟩

theorem inv_end (c : Ctx P X call ops ms ord O F M C V H) (hI : DInv P ops.toList ord O F M V φ0 w0 a0 listed a w p φ) (hall : ∀ q, q < ord.length → sel ord listed q = true) :
    Sim (M 0).next φ0 φ w0 w ∧ FR φ (F ord.length) a ∧ MR φ (M ord.length).get w ∧ Bd φ (M ord.length).next := by
  obtain ⟨hwn, hmn⟩ := run_wf c.hP c.hc c.hR c.hw ord.length (Nat.le_refl _)
  have hno : ∀ q', p ≤ q' → q' < ord.length → ¬ isE ops.toList O F q' := fun q' h1 h2 => hI.above q' h1 (hall q' h2)
  have hbt := mem_between c.hP c.hc c.hR c.hw ord.length hI.ple (Nat.le_refl _) hno
  obtain ⟨⟨hnt, hnok⟩, htv⟩ := frame_TV c.hR c.hn ord.length (Nat.le_refl _)
  refine ⟨hI.sim, ⟨by rw [hI.tsize, hnt], hnok, fun t => ?_⟩, ⟨fun id l hl => ?_, fun id hd hn => ?_, fun id hd hn => ?_, hI.inj, hI.pin⟩, fun id hid => ?_⟩
  · rw [htv t, TV_agree (S' := sel ord listed) ord.length fun k hk _ => (hall k hk).symm]
    exact hI.tmps t
  · rcases hI.live id l hl with ⟨h1, b', h2, h3⟩ | ⟨q', h1, h2, h3, h4, b', h5, h6⟩
    · exact ⟨b', by rw [hbt id h1]; exact h2, h3⟩
    · have hq'n := sel_lt h2
      obtain ⟨i, hi⟩ := ord_at (ord := ord) hq'n
      obtain ⟨hwq', _⟩ := run_wf c.hP c.hc c.hR c.hw q' (by omega)
      obtain ⟨_, _, _, k3, _⟩ := alc_at c.hR hi hwq' h3
      refine ⟨b', ?_, h6⟩
      rw [mem_between c.hP c.hc c.hR c.hw (p := q' + 1) ord.length (by omega) (Nat.le_refl _) (fun x hx hx' => hno x (by omega) hx') id (by omega)]
      exact h5
  · obtain ⟨h1, h2, _⟩ := hI.dead id hd
    rw [hbt id h1]; exact h2 hn
  · obtain ⟨h1, _, h2⟩ := hI.dead id hd
    rw [hbt id h1]; exact h2 hn
  · have hpn := hmn p hI.ple
    cases he : φ id with
    | none => exact absurd he hid
    | some x => cases x with
      | none => have := (hI.dead id he).1; omega
      | some l =>
        rcases hI.live id l he with ⟨h1, _⟩ | ⟨q', h1, h2, h3, h4, _⟩
        · omega
        · have hq'n := sel_lt h2
          obtain ⟨i, hi⟩ := ord_at (ord := ord) hq'n
          obtain ⟨hwq', _⟩ := run_wf c.hP c.hc c.hR c.hw q' (by omega)
          obtain ⟨_, _, _, k3, _⟩ := alc_at c.hR hi hwq' h3
          have := hmn (q' + 1) (by omega)
          omega

theorem any_sim (c : Ctx P X call ops ms ord O F M C V H) {Q : Exit → Act → World → Prop}
    (hE : ∀ φ w a, Sim (M 0).next φ0 φ w0 w → FR φ (F ord.length) a → MR φ (M ord.length).get w → Bd φ (M ord.length).next → a.defers = a0.defers → Q .normal a w) :
    ∀ (fuel : Nat) (listed : Array Bool) (a : Act) (w : World) (p : Nat) (φ : Phi), DInv P ops.toList ord O F M V φ0 w0 a0 listed a w p φ → cU (sel ord listed) ord.length = fuel → wpAny P .any ops Q fuel listed a w := by
  intro fuel
  induction fuel with
  | zero =>
    intro listed a w p φ hI hcnt
    have hall := cU_zero hcnt
    refine ⟨?_, ?_⟩
    · apply List.eq_nil_iff_forall_not_mem.2
      intro j hj
      obtain ⟨q, hr⟩ := ready_pos (by rw [← c.hms]; exact c.hG) (by rw [← c.hms]; exact c.hR) hI hj
      have := hall q (List.getElem?_eq_some_iff.1 hr.at_).1
      rw [hr.un] at this; cases this
    · obtain ⟨h1, h2, h3, h4⟩ := inv_end c hI hall
      exact hE φ w a h1 h2 h3 h4 hI.defers
  | succ fuel ih =>
    intro listed a w p φ hI hcnt
    refine ⟨fun hnil => ?_, fun j hj => ?_⟩
    · exfalso
      obtain ⟨q, h1, h2, h3⟩ := cU_pos (n := ord.length) (S := sel ord listed) (by omega)
      obtain ⟨i, hi⟩ := ord_at (ord := ord) h1
      have hop := c.hR.op q i hi
      have hmem : i ∈ Region.ready .any ops listed := by
        rw [mem_ready]
        have hil : i < listed.size := by rw [hI.size]; exact c.hG.lt q i hi
        rw [sel_at hi] at h2
        refine ⟨?_, O q, by simpa using hop, fun e he hb => ?_⟩
        · simp [hil] at h2 ⊢; exact h2
        · rw [binds_eq] at hb
          have hm := mask_direct hop (e := e) (by simpa using he) hb
          rw [← c.hms] at hm
          obtain ⟨q', hq', he'⟩ := c.hG.ahead q i e.on hi hm
          have := h3 q' hq'
          rw [sel_at he'] at this; exact this
      rw [hnil] at hmem; cases hmem
    · obtain ⟨q, hr'⟩ := ready_pos (by rw [← c.hms]; exact c.hG) (by rw [← c.hms]; exact c.hR) hI hj
      have hr : Rdy ops.toList ms ord O listed p j q := by rw [c.hms]; exact hr'
      have hql : q < ord.length := (List.getElem?_eq_some_iff.1 hr.at_).1
      have hopj : ops[j]? = some (O q) := by have := hr.op; simpa using this
      have hcnt' : cU (sel ord (listed.setIfInBounds j true)) ord.length = fuel := by
        have := (cU_set hr.un (sel_set c.hG hI.size hr) (n := ord.length)).1 hql
        omega
      unfold wpOp
      cases hwt : lwanted ops.toList (O q) (F q) with
      | none =>
        cases c.hR.step q j hr.at_ with
        | skip h => rw [hwt] at h; cases h
        | eff h => rw [hwt] at h; cases h
        | alc h => rw [hwt] at h; cases h
        | quiet h => rw [hwt] at h; cases h
      | some wt =>
      have hwant := wanted_at c.hG c.hms c.hR c.hn hI hr hwt
      simp only [hopj, hwant]
      cases wt with
      | false =>
        simp only [Bool.false_eq_true, if_false]
        cases c.hR.step q j hr.at_ with
        | skip _ hv => exact ih _ _ _ p φ (inv_quiet c hI hr (fun h => by have h := h.1; rw [hwt] at h; cases h) (by rw [hv]; exact VR.undef)) hcnt'
        | eff h => rw [hwt] at h; cases h
        | alc h => rw [hwt] at h; cases h
        | quiet h => rw [hwt] at h; cases h
      | true =>
        simp only [if_true]
        left
        cases c.hR.step q j hr.at_ with
        | skip h => rw [hwt] at h; cases h
        | eff h1 h2 => exact inv_eff c hI hr ⟨h1, h2⟩ _ _ fun φ' w' v' hI' => ih _ _ _ (q + 1) φ' hI' hcnt'
        | alc h1 h2 h3 =>
          obtain ⟨v', obj, wz, φ', g1, g2⟩ := inv_alc c hI hr ⟨h1, h2, h3⟩
          unfold Oper.wp
          rw [g1]
          exact ih _ _ _ p φ' g2 hcnt'
        | quiet h1 h2 h3 h4 h5 =>
          obtain ⟨v', g1, g2⟩ := quiet_run c hI hr h4 h5
          unfold Oper.wp
          rw [g1]
          exact ih _ _ _ p φ (inv_quiet c hI hr (fun h => by have := h.2; rw [h2] at this; cases this) g2) hcnt'

theorem draw_any (hP : POK P X) (hc : CallSound P call) {ops : Array Oper} {f f' : LF} {m m' : LMem} (hreg : regOK ops.toList = true) (hnt : LFok f)
    (h : runDraw P X call ops.toList (masks ops.toList []) (regOrd ops.toList (masks ops.toList [])) f m m [] = some (f', m')) (hw : WF m) :
    (m.next ≤ m'.next ∧ WF m' ∧ LFok f') ∧ ∀ {Q : Exit → Act → World → Prop} φ w a, MR φ m.get w → Bd φ m.next → FR φ f a → Ends m m' f' φ a w (Q .normal) → wpAny P .any ops Q ops.size (Array.replicate ops.size false) a { w with drawn := w.drawn + 1 } := by
  have hG := regOK_spec hreg
  obtain ⟨O, F, M, C, V, H, h1, h2, h3, h4, h5, h6, hR⟩ := trace ops.toList _ _ f m m [] f' m' h
  have c : Ctx P X call ops (masks ops.toList []) (regOrd ops.toList (masks ops.toList [])) O F M C V H :=
    ⟨hP, hc, hG, rfl, hR, by rw [h1]; exact hnt, by rw [h2]; exact hw, by rw [h2, h3]⟩
  obtain ⟨hwn, hmn⟩ := run_wf c.hP c.hc c.hR c.hw _ (Nat.le_refl _)
  refine ⟨⟨?_, by rw [← h6]; exact hwn, by rw [← h5]; exact (frame_TV c.hR c.hn _ (Nat.le_refl _)).1.2⟩, fun {Q} φ w a hm hb hf hE => ?_⟩
  · have := hmn 0 (Nat.zero_le _)
    rw [h2, h6] at this; exact this
  · have hlen : (regOrd ops.toList (masks ops.toList [])).length = ops.size := by rw [hG.len]; simp
    have hsel0 : ∀ q, sel (regOrd ops.toList (masks ops.toList [])) (Array.replicate ops.size false) q = false := by
      intro q
      unfold sel
      split
      · rename_i i hi
        by_cases hlt : i < ops.size
        · simp [hlt]
        · simp [hlt]
      · rfl
    have hfalse : ∀ i, (Array.replicate ops.size false).getD i false = false := by
      intro i
      by_cases hlt : i < ops.size
      · simp [hlt]
      · simp [hlt]
    have hcnt : cU (sel (regOrd ops.toList (masks ops.toList [])) (Array.replicate ops.size false)) (regOrd ops.toList (masks ops.toList [])).length = ops.size := by
      rw [hlen]
      generalize ops.size = n at *
      have : ∀ k, cU (sel (regOrd ops.toList (masks ops.toList [])) (Array.replicate n false)) k = k := by
        intro k
        induction k with
        | zero => rfl
        | succ k ih => simp only [cU, ih, hsel0 k]; rfl
      exact this n
    refine any_sim (φ0 := φ) (w0 := { w with drawn := w.drawn + 1 }) (a0 := a) c (fun φ' w' a' hs hf' hm' hb' hd' => ?_) ops.size _ a _ 0 φ ?_ hcnt
    · rw [h5] at hf'
      rw [h6] at hm' hb'
      rw [h2] at hs
      exact hE φ' w' a' ((Sim.drew _ φ w).trans (Nat.le_refl _) hs) hf' hm' hb' hd'
    · have hm' : MR φ m.get { w with drawn := w.drawn + 1 } := hm.same_heap rfl
      refine ⟨by simp, (fun i o _ hi => by simp only [hfalse i] at hi; cases hi), Nat.zero_le _, .inl rfl, (fun q hq => by omega), (fun q _ hs => by rw [hsel0 q] at hs; cases hs), by rw [h1]; exact hf.size, fun t => ?_, rfl,
        fun id l hl => .inl ?_, fun id hd => ?_, hm.inj, Sim.refl _ _ _, hm'.pin⟩
      · rw [TV_tail (q := 0) _ (Nat.zero_le _) fun k _ _ _ => hsel0 k]
        show VR φ ((F 0).get t) _
        rw [h1]; exact hf.val t
      · obtain ⟨b, g1, g2⟩ := hm'.live id l hl
        rw [h2]
        exact ⟨hb id (by rw [hl]; simp), b, g1, g2⟩
      · rw [h2]
        exact ⟨hb id (by rw [hd]; simp), hm'.dead id hd, hm'.nils id hd⟩
theorem draw_sim (hP : POK P X) (hc : CallSound P call) {ops : Array Oper} {f f' : LF} {m m' : LMem} (hreg : regOK ops.toList = true) (hnt : LFok f)
    (h : runDraw P X call ops.toList (masks ops.toList []) (regOrd ops.toList (masks ops.toList [])) f m m [] = some (f', m')) (hw : WF m) :
    (m.next ≤ m'.next ∧ WF m' ∧ LFok f') ∧ ∀ {Q : Exit → Act → World → Prop} {id : Nat} φ w a, MR φ m.get w → Bd φ m.next → FR φ f a → Ends m m' f' φ a w (Q .normal) → (Code.region id ops true).wp P Q a w := by
  obtain ⟨h1, h2⟩ := draw_any hP hc hreg hnt h hw
  exact ⟨h1, fun {Q id} φ w a hm hb hf hE => wp_region_any hP.mixed (h2 φ w a hm hb hf hE)⟩
end
end Go.Eng
/- The engine is sound: code and calls. -/
namespace Go.Eng
variable [SymV]
section
variable {P : Program} {X : ExtT} {call : CallT}

def xit : LX → Exit
  | .norm => .normal
  | .exit id => .exit id
  | .ret => .ret

theorem Ends.step {m m1 m' : LMem} {f' : LF} {φ φ1 : Phi} {a a1 : Act} {w w1 : World} {Q : Act → World → Prop} (hle : m.next ≤ m1.next) (hs : Sim m.next φ φ1 w w1) (hd : a1.defers = a.defers) (hE : Ends m m' f' φ a w Q) : Ends m1 m' f' φ1 a1 w1 Q := by
  have _s := SymV.val
  have _s := SymV.val
  exact
  fun φ2 w2 a2 hs2 hf2 hm2 hb2 hd2 => hE φ2 w2 a2 (hs.trans hle hs2) hf2 hm2 hb2 (hd2.trans hd)

/-- the run of code, by fuel -/
def ExecOK (P : Program) (X : ExtT) (call : CallT) (n : Nat) : Prop :=
  ∀ (c : Code) (f f' : LF) (m m' : LMem) (x : LX), exec P X call n c f m = some (x, f', m') → LFok f → WF m → (m.next ≤ m'.next ∧ WF m' ∧ LFok f') ∧
    ∀ φ w a, MR φ m.get w → Bd φ m.next → FR φ f a → ∀ Q : Exit → Act → World → Prop, Ends m m' f' φ a w (Q (xit x)) → c.wp P Q a w

def LoopOK (P : Program) (X : ExtT) (call : CallT) (n : Nat) : Prop :=
  ∀ (c : Code) (f f' : LF) (m m' : LMem) (x : LX), exec P X call n (.loop c) f m = some (x, f', m') → LFok f → WF m → (m.next ≤ m'.next ∧ WF m' ∧ LFok f') ∧
    ∀ φ w a, MR φ m.get w → Bd φ m.next → FR φ f a → ∀ Q : Exit → Act → World → Prop, Ends m m' f' φ a w (Q (xit x)) → Code.rounds P c Q n a w

theorem runSeq_ok {ops : List Oper} : ∀ {r : List Oper} {f f' : LF} {m m' : LMem}, runSeq P X call ops r f m = some (f', m') → LFok f → LFok f'
  | [], f, f', m, m', h, hf => by simp only [runSeq, Option.some.injEq, Prod.mk.injEq] at h; rw [← h.1]; exact hf
  | o :: r, f, f', m, m', h, hf => by
    unfold runSeq at h
    cases hw : lwanted ops o f with
    | none => rw [hw] at h; cases h
    | some wt =>
    cases wt with
    | true =>
      simp only [hw, cond_true] at h
      split at h
      case h_2 => cases h
      split at h
      case h_2 => cases h
      rename_i hp
      exact runSeq_ok h (hf.put hp).1
    | false =>
      simp only [hw, cond_false] at h
      split at h
      case h_2 => cases h
      rename_i hp
      exact runSeq_ok h (hf.put hp).1

theorem exec_sim (hP : POK P X) (hc : CallSound P call) : ∀ n, ExecOK P X call n ∧ LoopOK P X call n := by
  intro n
  induction n with
  | zero => exact ⟨fun c f f' m m' x h => by simp [exec] at h, fun c f f' m m' x h => by simp [exec] at h⟩
  | succ n ih =>
    obtain ⟨ihE, ihL⟩ := ih
    have hL : LoopOK P X call (n + 1) := by
      intro c f f' m m' x h hnt hw
      simp only [exec] at h
      split at h
      · rename_i f1 m1 h1
        obtain ⟨g1, g2⟩ := ihE c f f1 m m1 .norm h1 hnt hw
        obtain ⟨q1, q2⟩ := ihL c f1 f' m1 m' x h g1.2.2 g1.2.1
        refine ⟨⟨Nat.le_trans g1.1 q1.1, q1.2⟩, fun φ w a hm hb hf Q hE => ?_⟩
        rw [rounds_succ]
        exact g2 φ w a hm hb hf _ fun φ1 w1 a1 hs1 hf1 hm1 hb1 hd1 => q2 φ1 w1 a1 hm1 hb1 hf1 Q (hE.step g1.1 hs1 hd1)
      · rename_i hno
        obtain ⟨g1, g2⟩ := ihE c f f' m m' x h hnt hw
        refine ⟨g1, fun φ w a hm hb hf Q hE => ?_⟩
        rw [rounds_succ]
        refine g2 φ w a hm hb hf _ fun φ1 w1 a1 hs1 hf1 hm1 hb1 hd1 => ?_
        have := hE φ1 w1 a1 hs1 hf1 hm1 hb1 hd1
        cases x with
        | norm => exact absurd h (hno f' m')
        | exit id => exact this
        | ret => exact this
    refine ⟨?_, hL⟩
    intro c f f' m m' x h hnt hw
    cases c with
    | skip =>
      simp only [exec, Option.some.injEq, Prod.mk.injEq] at h
      obtain ⟨rfl, rfl, rfl⟩ := h
      exact ⟨⟨Nat.le_refl _, hw, hnt⟩, fun φ w a hm hb hf Q hE => wp_skip (hE φ w a (Sim.refl _ φ w) hf hm hb rfl)⟩
    | region id ops draw =>
      simp only [exec] at h
      cases draw with
      | true =>
        simp only [cond_true] at h
        cases hreg : regOK ops.toList with
        | false => simp only [hreg, cond_false] at h; cases h
        | true =>
          simp only [hreg, cond_true, Option.map_eq_some_iff, Prod.mk.injEq] at h
          obtain ⟨⟨f1, m1⟩, hrun, rfl, rfl, rfl⟩ := h
          obtain ⟨g1, g2⟩ := draw_sim hP hc hreg hnt hrun hw
          exact ⟨g1, fun φ w a hm hb hf Q hE => g2 φ w a hm hb hf hE⟩
      | false =>
        simp only [cond_false] at h
        cases hok : ops.toList.all okOp with
        | false => simp only [hok, cond_false] at h; cases h
        | true =>
          simp only [hok, cond_true, Option.map_eq_some_iff, Prod.mk.injEq] at h
          obtain ⟨⟨f1, m1⟩, hrun, rfl, rfl, rfl⟩ := h
          have hs := fun Q => seq_sim (Q := Q) hP hc ops hok ops.toList 0 f f1 m m1 (by simp) hrun hw
          refine ⟨⟨(hs fun _ _ _ => True).1.1, (hs fun _ _ _ => True).1.2, runSeq_ok hrun hnt⟩, fun φ w a hm hb hf Q hE => wp_region ?_⟩
          have := (hs Q).2 φ w a hm hb hf hE
          rw [← List.range_eq_range'] at this
          simpa using this
    | seq c1 c2 =>
      simp only [exec] at h
      split at h
      · rename_i f1 m1 h1
        obtain ⟨g1, g2⟩ := ihE c1 f f1 m m1 .norm h1 hnt hw
        obtain ⟨q1, q2⟩ := ihE c2 f1 f' m1 m' x h g1.2.2 g1.2.1
        refine ⟨⟨Nat.le_trans g1.1 q1.1, q1.2⟩, fun φ w a hm hb hf Q hE => wp_seq ?_⟩
        exact g2 φ w a hm hb hf _ fun φ1 w1 a1 hs1 hf1 hm1 hb1 hd1 => q2 φ1 w1 a1 hm1 hb1 hf1 Q (hE.step g1.1 hs1 hd1)
      · rename_i hno
        obtain ⟨g1, g2⟩ := ihE c1 f f' m m' x h hnt hw
        refine ⟨g1, fun φ w a hm hb hf Q hE => wp_seq ?_⟩
        refine g2 φ w a hm hb hf _ fun φ1 w1 a1 hs1 hf1 hm1 hb1 hd1 => ?_
        have := hE φ1 w1 a1 hs1 hf1 hm1 hb1 hd1
        cases x with
        | norm => exact absurd h (hno f' m')
        | exit id => exact this
        | ret => exact this
    | cond o c1 c2 =>
      have key : ∀ (t : Bool) (b : Code), (if t then c1 else c2) = b → okOperand o = true ∨ (∃ v, o = .const v) → f.lev o = .bool t → exec P X call n b f m = some (x, f', m') → (m.next ≤ m'.next ∧ WF m' ∧ LFok f') ∧
          ∀ φ w a, MR φ m.get w → Bd φ m.next → FR φ f a → ∀ Q : Exit → Act → World → Prop, Ends m m' f' φ a w (Q (xit x)) → (Code.cond o c1 c2).wp P Q a w := by
        intro t b hb' ho hl hr
        obtain ⟨g1, g2⟩ := ihE b f f' m m' x hr hnt hw
        refine ⟨g1, fun φ w a hm hb hf Q hE => wp_cond (t := t) ?_ (by rw [hb']; exact g2 φ w a hm hb hf Q hE)⟩
        rcases ho with ho | ⟨v, rfl⟩
        · have := hf.eval ho
          rw [hl] at this
          generalize a.eval o = y at this
          cases this; rfl
        · exact hl
      have keyS : ∀ (k : FloatKind) (i j : Nat) (t : Bool) (b : Code), (if t then c1 else c2) = b → (bif okOperand o then tlk (.complex k i j) SymD.tab else none) = some t → f.lev o = .complex k i j → exec P X call n b f m = some (x, f', m') → (m.next ≤ m'.next ∧ WF m' ∧ LFok f') ∧
          ∀ φ w a, MR φ m.get w → Bd φ m.next → FR φ f a → ∀ Q : Exit → Act → World → Prop, Ends m m' f' φ a w (Q (xit x)) → (Code.cond o c1 c2).wp P Q a w := by
        intro k i j t b hb' ho hl hr
        obtain ⟨g1, g2⟩ := ihE b f f' m m' x hr hnt hw
        cases hok : okOperand o with
        | false => rw [hok] at ho; cases ho
        | true =>
        rw [hok] at ho
        have hd := (tlk_spec SymV.ok ho).2
        refine ⟨g1, fun φ w a hm hb hf Q hE => wp_cond (t := t) ?_ (by rw [hb']; exact g2 φ w a hm hb hf Q hE)⟩
        have := hf.eval hok
        rw [hl] at this
        generalize a.eval o = y at this
        cases this with
        | sym _ _ _ _ hv => rw [hv]; exact hd
      have hop : okOperand o = true ∨ (∃ v, o = .const v) ∨ ∃ g, o = .global g := by
        cases o with
        | tmp t => exact .inl rfl
        | const v => exact .inr (.inl ⟨v, rfl⟩)
        | global g => exact .inr (.inr ⟨g, rfl⟩)
        | func g => exact .inl rfl
      simp only [exec] at h
      split at h
      · cases h
      · rename_i hng
        have hop' : okOperand o = true ∨ (∃ v, o = .const v) := by
          rcases hop with h1 | h1 | ⟨g, h1⟩
          · exact .inl h1
          · exact .inr h1
          · exact absurd h1 (hng g)
        split at h
        · rename_i hl; exact key true c1 rfl hop' hl h
        · rename_i hl; exact key false c2 rfl hop' hl h
        · rename_i hl
          split at h
          · rename_i ht; exact keyS _ _ _ true c1 rfl ht hl h
          · rename_i ht; exact keyS _ _ _ false c2 rfl ht hl h
          · cases h
        · cases h
    | block id c =>
      simp only [exec] at h
      split at h
      · rename_i j f1 m1 h1
        obtain ⟨g1, g2⟩ := ihE c f f1 m m1 (.exit j) h1 hnt hw
        cases hj : Nat.beq j id with
        | true =>
          simp only [hj, cond_true, Option.some.injEq, Prod.mk.injEq] at h
          obtain ⟨rfl, rfl, rfl⟩ := h
          have := Nat.eq_of_beq_eq_true hj
          subst this
          refine ⟨g1, fun φ w a hm hb hf Q hE => wp_block (g2 φ w a hm hb hf _ fun φ1 w1 a1 hs1 hf1 hm1 hb1 hd1 => ?_)⟩
          simp only [xit, Exit.inBlock, if_true]
          exact hE φ1 w1 a1 hs1 hf1 hm1 hb1 hd1
        | false =>
          simp only [hj, cond_false, Option.some.injEq, Prod.mk.injEq] at h
          obtain ⟨rfl, rfl, rfl⟩ := h
          have hne : ¬ j = id := fun h0 => by rw [h0, Nat.beq_refl] at hj; cases hj
          refine ⟨g1, fun φ w a hm hb hf Q hE => wp_block (g2 φ w a hm hb hf _ fun φ1 w1 a1 hs1 hf1 hm1 hb1 hd1 => ?_)⟩
          simp only [xit, Exit.inBlock, if_neg hne]
          exact hE φ1 w1 a1 hs1 hf1 hm1 hb1 hd1
      · rename_i hno
        obtain ⟨g1, g2⟩ := ihE c f f' m m' x h hnt hw
        refine ⟨g1, fun φ w a hm hb hf Q hE => wp_block (g2 φ w a hm hb hf _ fun φ1 w1 a1 hs1 hf1 hm1 hb1 hd1 => ?_)⟩
        have := hE φ1 w1 a1 hs1 hf1 hm1 hb1 hd1
        cases x with
        | norm => exact this
        | exit j => exact absurd h (hno j f' m')
        | ret => exact this
    | loop c =>
      obtain ⟨g1, g2⟩ := hL c f f' m m' x h hnt hw
      exact ⟨g1, fun φ w a hm hb hf Q hE => wp_loop_rounds (n + 1) (g2 φ w a hm hb hf Q hE)⟩
    | exit id =>
      simp only [exec, Option.some.injEq, Prod.mk.injEq] at h
      obtain ⟨rfl, rfl, rfl⟩ := h
      exact ⟨⟨Nat.le_refl _, hw, hnt⟩, fun φ w a hm hb hf Q hE => wp_exit (hE φ w a (Sim.refl _ φ w) hf hm hb rfl)⟩
    | ret =>
      simp only [exec, Option.some.injEq, Prod.mk.injEq] at h
      obtain ⟨rfl, rfl, rfl⟩ := h
      exact ⟨⟨Nat.le_refl _, hw, hnt⟩, fun φ w a hm hb hf Q hE => wp_ret (hE φ w a (Sim.refl _ φ w) hf hm hb rfl)⟩
    | rangeFunc _ _ _ _ => simp [exec] at h
    | scope c =>
      simp only [exec] at h
      obtain ⟨g1, g2⟩ := ihE c f f' m m' x h hnt hw
      refine ⟨g1, fun φ w a hm hb hf Q hE => wp_scope_straight (g2 φ w a hm hb hf _ fun φ1 w1 a1 hs1 hf1 hm1 hb1 hd1 => ?_)⟩
      have := hE φ1 w1 a1 hs1 hf1 hm1 hb1 hd1
      cases x with
      | norm => exact this
      | exit j => exact this
      | ret => exact this
    | label _ =>
      simp only [exec, Option.some.injEq, Prod.mk.injEq] at h
      obtain ⟨rfl, rfl, rfl⟩ := h
      exact ⟨⟨Nat.le_refl _, hw, hnt⟩, fun φ w a hm hb hf Q hE => wp_label (hE φ w a (Sim.refl _ φ w) hf hm hb rfl)⟩
    | goto _ => simp [exec] at h
    | refuse _ => simp [exec] at h

/- results -/
theorem results_sim {f : LF} {m : LMem} {w : World} {a : Act} {φ : Phi} {G : ResultVar → Sem Value} (hG1 : ∀ t, G (.tmp t) = pure (a.tmps.getD t undef))
    (hG2 : ∀ x t, G (.cell x t) = do loadVar t (← asAddr (a.tmps.getD x undef))) (hm : MR φ m.get w) (hf : FR φ f a) : ∀ (rs : List ResultVar) (vs : List Value), lresults P f m rs = some vs →
    ∃ vs', (rs.mapM G).run P w = .ok vs' w ∧ VRL φ vs vs' := by
  intro rs
  induction rs with
  | nil => intro vs h; simp [lresults] at h; subst h; exact ⟨[], rfl, .nil⟩
  | cons r rs ih =>
    intro vs h
    cases r with
    | tmp t =>
      simp only [lresults, Option.map_eq_some_iff] at h
      obtain ⟨vs0, h0, rfl⟩ := h
      obtain ⟨vs', g1, g2⟩ := ih vs0 h0
      exact ⟨a.tmps.getD t undef :: vs', by simp only [List.mapM_cons, hG1, Sem.run_bind, Sem.run_pure, Result.andThen_ok, g1], .cons _ _ _ _ (hf.val t) g2⟩
    | cell x t =>
      simp only [lresults] at h
      split at h
      case h_2 => cases h
      rename_i b off hx
      split at h
      case h_2 => cases h
      rename_i c hc
      split at h
      case h_2 => cases h
      rename_i v hv
      simp only [Option.map_eq_some_iff] at h
      obtain ⟨vs0, h0, rfl⟩ := h
      obtain ⟨vs', g1, g2⟩ := ih vs0 h0
      have hval := hf.val x
      rw [hx] at hval
      obtain ⟨l, hl, hy, hbr⟩ := ptr_cells hm.part hval hc
      obtain ⟨v', k1, k2⟩ := load_sim (P := P) hbr hv
      refine ⟨v' :: vs', ?_, .cons _ _ _ _ k2 g2⟩
      have ha : (asAddr (a.tmps.getD x undef)).run P w = .ok ⟨l.b, l.sh + off, none⟩ w := by rw [hy]; rfl
      simp only [List.mapM_cons, hG2, Sem.run_bind, ha, Sem.run_pure, Result.andThen_ok, k1, g1]

theorem tuple_sim {φ : Phi} {vs vs' : List Value} (h : VRL φ vs vs') : VR φ (ltuple vs) (if h : (⟨vs'⟩ : Array Value).size = 1 then (⟨vs'⟩ : Array Value)[0] else .tuple ⟨vs'⟩) := by
  have _s := SymV.val
  cases h with
  | nil => exact .tuple _ _ .nil
  | cons x y xs ys h1 h2 =>
    cases h2 with
    | nil => simpa [ltuple] using h1
    | cons x2 y2 xs2 ys2 h3 h4 =>
      have : ¬ (⟨y :: y2 :: ys2⟩ : Array Value).size = 1 := by simp
      rw [dif_neg this]
      exact .tuple _ _ (.cons _ _ _ _ h1 (.cons _ _ _ _ h3 h4))

theorem putArgs_get : ∀ (args : List Value) (i : Nat) (t : FT Value) (k : Nat), i + args.length ≤ 512 → k < 512 → FT.get (putArgs args i t) k = if i ≤ k ∧ k < i + args.length then args[k - i]? else FT.get t k
  | [], i, t, k, _, _ => by have _s := SymV.val; have _s := SymV.val; simp [putArgs]; intro h1 h2; omega
  | v :: r, i, t, k, h, hk => by
    simp only [List.length_cons] at h
    rw [putArgs, putArgs_get r (i + 1) _ k (by omega) hk]
    simp only [List.length_cons]
    by_cases h1 : i + 1 ≤ k ∧ k < i + 1 + r.length
    · rw [if_pos h1, if_pos (by omega), show k - i = (k - (i + 1)) + 1 by omega]; simp
    · rw [if_neg h1, FT.get_set _ _ _ _ (by omega) hk]
      by_cases h2 : i = k
      · subst h2; rw [if_pos rfl, if_pos (by omega)]; simp
      · rw [if_neg h2, if_neg (by omega)]

theorem start_frame {φ : Phi} {args args' : List Value} {nt : Nat} (h : VRL φ args args') (h1 : args.length ≤ nt) (h2 : nt ≤ 512) :
    FR φ { tr := putArgs args 0 (FT.lf none), nt := nt } { tmps := (⟨args'⟩ : Array Value) ++ Array.replicate (nt - (⟨args'⟩ : Array Value).size) undef, defers := [] } := by
  have hl := h.length
  have hsz : ((⟨args'⟩ : Array Value)).size = args'.length := by simp
  refine ⟨by simp; omega, ⟨h2⟩, fun i => ?_⟩
  by_cases hi : i < nt
  · have hg : LF.get { tr := putArgs args 0 (FT.lf none), nt := nt } i = (if i < args.length then args[i]? else none).getD undef := by
      rw [LF.get_lt (by exact hi)]
      show (FT.get (putArgs args 0 (FT.lf none)) i).getD undef = _
      rw [putArgs_get args 0 (FT.lf none) i (by omega) (by omega), FT.get_lf]
      simp
    rw [hg]
    by_cases hia : i < args.length
    · rw [if_pos hia]
      obtain ⟨y, k1, k2⟩ := h.get (List.getElem?_eq_getElem hia)
      rw [List.getElem?_eq_getElem hia]
      have : ((⟨args'⟩ : Array Value) ++ Array.replicate (nt - (⟨args'⟩ : Array Value).size) undef).getD i undef = y := by
        have hia' : i < args'.length := by omega
        rw [List.getElem?_eq_getElem hia'] at k1
        simp only [Option.some.injEq] at k1
        simp [Array.getElem?_append_left, hia', k1]
      rw [this]; exact k2
    · rw [if_neg hia]
      have : ((⟨args'⟩ : Array Value) ++ Array.replicate (nt - (⟨args'⟩ : Array Value).size) undef).getD i undef = undef := by
        have hia' : args'.length ≤ i := by omega
        simp [Array.getElem?_append_right, hia', Array.getElem?_replicate]
        split <;> rfl
      rw [this]; exact VR.undef
  · have hg : LF.get { tr := putArgs args 0 (FT.lf none), nt := nt } i = undef := LF.get_ge (by show nt ≤ i; omega)
    rw [hg]
    have : ((⟨args'⟩ : Array Value) ++ Array.replicate (nt - (⟨args'⟩ : Array Value).size) undef).getD i undef = undef := by
      have : ((⟨args'⟩ : Array Value) ++ Array.replicate (nt - (⟨args'⟩ : Array Value).size) undef).size ≤ i := by simp; omega
      rw [Array.getD_eq_getD_getElem?, Array.getElem?_eq_none this]; rfl
    rw [this]; exact VR.undef

/-- what a primitive must give -/
def PrimOK (P : Program) (prim : FuncId → Option (List Value → LMem → Option (Value × LMem))) : Prop :=
  ∀ g p, prim g = some p → ∀ args m v m', p args m = some (v, m') → WF m → (m.next ≤ m'.next ∧ WF m') ∧
    ∀ φ w args', MR φ m.get w → Bd φ m.next → VRL φ args args' → Calls P g ⟨args'⟩ w (CallPost m m' v φ w)

theorem call_sound (hP : POK P X) {prim : FuncId → Option (List Value → LMem → Option (Value × LMem))} (hp : PrimOK P prim) (fuel : Nat) : ∀ n, CallSound P (callF P X prim fuel n) := by
  intro n
  induction n with
  | zero => intro g args m v m' h; simp [callF] at h
  | succ n ih =>
    intro g args m v m' h hw
    have body : callB P X fuel (callF P X prim fuel n) g args m = some (v, m') → (m.next ≤ m'.next ∧ WF m') ∧ ∀ φ w args', MR φ m.get w → Bd φ m.next → VRL φ args args' → Calls P g ⟨args'⟩ w (CallPost m m' v φ w) := by
      clear h
      intro h
      unfold callB at h
      split at h
      · cases h
      · rename_i fn hfn
        split at h
        · cases h
        · rename_i c hbody
          cases hq : (Nat.ble args.length fn.ntmps && Nat.ble fn.ntmps 512) with
          | false => simp only [hq, cond_false] at h; cases h
          | true =>
            simp only [hq, cond_true] at h
            rw [Bool.and_eq_true] at hq
            have hq1 := Nat.le_of_ble_eq_true hq.1
            have hq2 := Nat.le_of_ble_eq_true hq.2
            have hE := (exec_sim hP ih fuel).1
            have key : ∀ (x : LX) (f' : LF) (m1 : LMem), (x = .norm ∨ x = .ret) → exec P X (callF P X prim fuel n) fuel c { tr := putArgs args 0 (FT.lf none), nt := fn.ntmps } m = some (x, f', m1) →
                (lresults P f' m1 fn.results.toList).map (fun vs => (ltuple vs, m1)) = some (v, m') →
                (m.next ≤ m'.next ∧ WF m') ∧ ∀ φ w args', MR φ m.get w → Bd φ m.next → VRL φ args args' → Calls P g ⟨args'⟩ w (CallPost m m' v φ w) := by
              intro x f' m1 hx hrun hres
              simp only [Option.map_eq_some_iff, Prod.mk.injEq] at hres
              obtain ⟨vs, hvs, rfl, rfl⟩ := hres
              obtain ⟨g1, g2⟩ := hE c _ f' m m1 x hrun ⟨hq2⟩ hw
              refine ⟨⟨g1.1, g1.2.1⟩, fun φ w args' hm hb hargs => calls_of_wp hfn hbody ?_⟩
              refine g2 φ w _ hm hb (start_frame hargs hq1 hq2) _ fun φ1 w1 a1 hs1 hf1 hm1 hb1 hd1 => ?_
              obtain ⟨vs', k1, k2⟩ := results_sim (P := P) (G := fun
                | .tmp t => pure (a1.tmps.getD t undef)
                | .cell x t => do loadVar t (← asAddr (a1.tmps.getD x undef))) (fun _ => rfl) (fun _ _ => rfl) hm1 hf1 fn.results.toList vs hvs
              have hpost : a1.defers = [] ∧ ∃ v', (results fn a1.tmps).run P w1 = .ok v' w1 ∧ CallPost m m1 (ltuple vs) φ w (.returned v') w1 := by
                refine ⟨hd1, _, ?_, _, φ1, rfl, hs1, tuple_sim k2, hm1, hb1⟩
                unfold results
                rw [Sem.run_bind, Array.mapM_eq_mapM_toList, Sem.run_map]
                refine Eq.trans (congrArg (fun r => Result.andThen (Result.andThen r _) _) (Eq.trans ?_ k1)) rfl
                rfl
              rcases hx with rfl | rfl
              · exact hpost
              · exact hpost
            split at h
            · rename_i f' m1 hrun; exact key .norm f' m1 (.inl rfl) hrun h
            · rename_i f' m1 hrun; exact key .ret f' m1 (.inr rfl) hrun h
            · cases h
    simp only [callF] at h
    split at h
    · rename_i p hpg
      split at h
      · rename_i r hr
        cases h
        exact hp g p hpg args m v m' hr hw
      · exact body h
    · exact body h
end
end Go.Eng
/- The engine once more, in a form that the kernel runs faster; it is the same engine. -/
namespace Go.Eng
variable [SymV]

/-- an operation made ready: what it does to the values of its operands -/
inductive Kind where
  | q (h : (Nat → Option LB) → (Operand → Value) → Option Value)
  | a (h : (Operand → Value) → Nat → Option (Value × LB))
  | e (h : (Operand → Value) → LMem → Option (LN × LMem))

def lim : IntKind → Nat
  | .i8 => 128
  | .i16 => 32768
  | .i32 => 2147483648
  | .i64 => 9223372036854775808
  | .u8 => 256
  | .u16 => 65536
  | .u32 => 4294967296
  | .u64 => 18446744073709551616

def kindNo : IntKind → Nat
  | .i8 => 0
  | .i16 => 1
  | .i32 => 2
  | .i64 => 3
  | .u8 => 4
  | .u16 => 5
  | .u32 => 6
  | .u64 => 7

theorem kindNo_inj {j k : IntKind} (h : Nat.beq (kindNo j) (kindNo k) = true) : j = k := by
  have _s := SymV.val
  have := Nat.eq_of_beq_eq_true h
  cases j <;> cases k <;> first | rfl | (simp [kindNo] at this)

theorem wrap_lim {k : IntKind} {n : Nat} (h : n < lim k) : k.wrap (n : Int) = n := by
  have _s := SymV.val
  have e : ∀ (b : Nat) (c : Nat), (2 : Int) ^ b = (c : Int) → True := fun _ _ _ => trivial
  unfold IntKind.wrap
  cases k <;> simp only [lim] at h <;> simp only [IntKind.bits, IntKind.signed] <;> simp <;> omega

abbrev NBin := IntKind → Nat → Nat → Option Value

def nAdd : NBin := fun k x y => bif Nat.blt (Nat.add x y) (lim k) then some (.int k (.ofNat (Nat.add x y))) else none
def nSub : NBin := fun k x y => bif Nat.ble y x && Nat.blt x (lim k) then some (.int k (.ofNat (Nat.sub x y))) else none
def nMul : NBin := fun k x y => bif Nat.blt (Nat.mul x y) (lim k) then some (.int k (.ofNat (Nat.mul x y))) else none
def nQuo : NBin := fun k x y => bif Nat.blt 0 y && Nat.blt x (lim k) then some (.int k (.ofNat (Nat.div x y))) else none
def nRem : NBin := fun k x y => bif Nat.blt 0 y then some (.int k (.ofNat (Nat.mod x y))) else none
def nEql : NBin := fun _ x y => some (.bool (Nat.beq x y))
def nNeq : NBin := fun _ x y => some (.bool (!Nat.beq x y))
def nLss : NBin := fun _ x y => some (.bool (Nat.blt x y))
def nLeq : NBin := fun _ x y => some (.bool (Nat.ble x y))
def nGtr : NBin := fun _ x y => some (.bool (Nat.blt y x))
def nGeq : NBin := fun _ x y => some (.bool (Nat.ble y x))
def nNone : NBin := fun _ _ _ => none

/-- the quick way of an operator on numbers that are not negative -/
def nbin : BinOp → NBin
  | .add => nAdd
  | .sub => nSub
  | .mul => nMul
  | .quo => nQuo
  | .rem => nRem
  | .eql => nEql
  | .neq => nNeq
  | .lss => nLss
  | .leq => nLeq
  | .gtr => nGtr
  | .geq => nGeq
  | _ => nNone

def withBin (op : BinOp) (K : NBin → Kind) : Kind :=
  match op with
  | .add => K nAdd
  | .sub => K nSub
  | .mul => K nMul
  | .quo => K nQuo
  | .rem => K nRem
  | .eql => K nEql
  | .neq => K nNeq
  | .lss => K nLss
  | .leq => K nLeq
  | .gtr => K nGtr
  | .geq => K nGeq
  | _ => K nNone

theorem withBin_eq (op : BinOp) (K : NBin → Kind) : withBin op K = K (nbin op) := by
  have _s := SymV.val
  cases op <;> rfl

theorem nbin_spec {op : BinOp} {t : TypeId} {k : IntKind} {x y : Nat} {v : Value} (h : nbin op k x y = some v) : pureSem (binOp op t (.int k (.ofNat x)) (.int k (.ofNat y))) = some v := by
  have hb : ∀ {c : Bool} {u : Value}, (bif c then some u else none) = some v → c = true ∧ u = v := by
    intro c u hc
    cases c
    · cases hc
    · exact ⟨rfl, by simpa using hc⟩
  have hw : ∀ n : Nat, n < lim k → k.wrap (Int.ofNat n) = Int.ofNat n := fun n hn => wrap_lim hn
  cases op <;> simp only [nbin, nAdd, nSub, nMul, nQuo, nRem, nEql, nNeq, nLss, nLeq, nGtr, nGeq, nNone] at h <;> simp only [binOp, ne_eq, not_true, if_false]
  case add =>
    obtain ⟨h1, rfl⟩ := hb h
    simp only [Op.intArith]
    have : (Int.ofNat x + Int.ofNat y) = Int.ofNat (Nat.add x y) := rfl
    rw [this, hw _ (blt_lt h1)]; rfl
  case sub =>
    obtain ⟨h1, rfl⟩ := hb h
    rw [Bool.and_eq_true] at h1
    have h2 := Nat.le_of_ble_eq_true h1.1
    have h3 := blt_lt h1.2
    simp only [Op.intArith]
    have : (Int.ofNat x - Int.ofNat y) = Int.ofNat (Nat.sub x y) := by
      show ((x : Int) - (y : Int)) = ((x - y : Nat) : Int); omega
    rw [this, hw _ (by show x - y < lim k; omega)]; rfl
  case mul =>
    obtain ⟨h1, rfl⟩ := hb h
    simp only [Op.intArith]
    have : (Int.ofNat x * Int.ofNat y) = Int.ofNat (Nat.mul x y) := rfl
    rw [this, hw _ (blt_lt h1)]; rfl
  case quo =>
    obtain ⟨h1, rfl⟩ := hb h
    rw [Bool.and_eq_true] at h1
    have h2 := blt_lt h1.1
    have h3 := blt_lt h1.2
    simp only [Op.intDiv]
    rw [if_neg (by show ¬ ((y : Int) = 0); omega)]
    have : (Int.ofNat x).tdiv (Int.ofNat y) = Int.ofNat (Nat.div x y) := rfl
    have hle : Nat.div x y ≤ x := Nat.div_le_self x y
    rw [this, hw _ (by omega)]; rfl
  case rem =>
    obtain ⟨h1, rfl⟩ := hb h
    have h2 := blt_lt h1
    simp only [Op.intDiv]
    rw [if_neg (by show ¬ ((y : Int) = 0); omega)]
    rfl
  case eql =>
    cases h
    have : (Int.ofNat x == Int.ofNat y) = Nat.beq x y := by
      cases hq : Nat.beq x y with
      | true => rw [Nat.eq_of_beq_eq_true hq]; simp
      | false => simp; intro h'; have h2 : x = y := by omega
                 rw [h2, Nat.beq_refl] at hq; cases hq
    simp only [Op.intCmp, this]; rfl
  case neq =>
    cases h
    have : (Int.ofNat x != Int.ofNat y) = !Nat.beq x y := by
      cases hq : Nat.beq x y with
      | true => rw [Nat.eq_of_beq_eq_true hq]; simp
      | false => simp; intro h'; have h2 : x = y := by omega
                 rw [h2, Nat.beq_refl] at hq; cases hq
    simp only [Op.intCmp, this]; rfl
  case lss =>
    cases h
    have : decide (Int.ofNat x < Int.ofNat y) = Nat.blt x y := by
      cases hq : Nat.blt x y with
      | true => have := blt_lt hq; simp; omega
      | false => simp; rcases Nat.lt_or_ge x y with h' | h'
                 · rw [blt_true h'] at hq; cases hq
                 · omega
    simp only [Op.intCmp, this]; rfl
  case leq =>
    cases h
    have : decide (Int.ofNat x ≤ Int.ofNat y) = Nat.ble x y := by
      cases hq : Nat.ble x y with
      | true => have := Nat.le_of_ble_eq_true hq; simp; omega
      | false => simp; rcases Nat.lt_or_ge y x with h' | h'
                 · omega
                 · rw [Nat.ble_eq_true_of_le h'] at hq; cases hq
    simp only [Op.intCmp, this]; rfl
  case gtr =>
    cases h
    have : decide (Int.ofNat x > Int.ofNat y) = Nat.blt y x := by
      cases hq : Nat.blt y x with
      | true => have := blt_lt hq; simp; omega
      | false => simp; rcases Nat.lt_or_ge y x with h' | h'
                 · rw [blt_true h'] at hq; cases hq
                 · omega
    simp only [Op.intCmp, this]; rfl
  case geq =>
    cases h
    have : decide (Int.ofNat x ≥ Int.ofNat y) = Nat.ble y x := by
      cases hq : Nat.ble y x with
      | true => have := Nat.le_of_ble_eq_true hq; simp; omega
      | false => simp; rcases Nat.lt_or_ge x y with h' | h'
                 · omega
                 · rw [Nat.ble_eq_true_of_le h'] at hq; cases hq
    simp only [Op.intCmp, this]; rfl
  all_goals cases h

def fbin [SymD] (N : NBin) (P : Program) (op : BinOp) (t : TypeId) (c : Bool) (x y : Value) : Option Value :=
  match x with
  | .int k a => match a with
    | .ofNat m => match y with
      | .int k' b => match b with
        | .ofNat n => match N k m n with
          | some v => bif Nat.beq (kindNo k) (kindNo k') then some v else lbin P op t c x y
          | none => lbin P op t c x y
        | _ => lbin P op t c x y
      | _ => lbin P op t c x y
    | _ => lbin P op t c x y
  | _ => lbin P op t c x y

theorem fbin_eq (P : Program) (op : BinOp) (t : TypeId) (c : Bool) (x y : Value) : fbin (nbin op) P op t c x y = lbin P op t c x y := by
  unfold fbin
  split
  · split
    · split
      · split
        · split
          · rename_i v hv
            cases hk : Nat.beq (kindNo _) (kindNo _) with
            | false => rfl
            | true =>
              have := kindNo_inj hk
              subst this
              simp only [cond_true, lbin]
              exact (nbin_spec hv).symm
          · rfl
        · rfl
      · rfl
    · rfl
  · rfl

def qpick [SymD] (c a b : Value) : Option Value :=
  match c with
  | .bool true => some a
  | .bool false => some b
  | .complex k n m => (tlk (.complex k n m) SymD.tab).map fun t => bif t then a else b
  | _ => none

def qnil [SymD] (x : Value) : Option Value :=
  match x with
  | .pointer (some a) => some (.pointer (some a))
  | .iface t v => some (.iface t v)
  | .func (.func f) xs ys => some (.func (.func f) xs ys)
  | .complex k n m => slk .nn [.complex k n m] SymD.tab
  | .float k n => match SymD.ptr n with
    | some _ => some (.float k n)
    | none => none
  | _ => none

def qun [SymD] (op : UnOp) (x : Value) : Option Value :=
  match x with
  | .int k n => pureSem (Op.unary op (.int k n))
  | .bool b => pureSem (Op.unary op (.bool b))
  | .complex a n m => slk (.un op) [.complex a n m] SymD.tab
  | _ => none

/-- what lies in a row, read by a way of reading -/
def lloadG [SymD] (lo : List Value → Option Value) (k s : Nat) (i : Value) (o : Nat) : Option Value :=
  match llk (.iad k) [.float .f64 s, i] SymD.ltab with
  | some (.float a p) => match (bif Nat.beq o 0 then some (.float a p) else llk (.fad o) [.float a p] SymD.ltab) with
    | some (.float _ q) => match SymD.ptr q with
      | some cs => lo cs
      | none => none
    | _ => none
  | _ => none

def qload1 [SymD] (g : Nat → Option LB) (x : Value) : Option Value :=
  match x with
  | .pointer (some ⟨b, off, none⟩) => match g b with
    | some (.cells c) => c[off]?
    | some (.ro c) => c[off]?
    | some (.lst _ k s) => lloadG (fun c => c[0]?) k s (.int .i64 (.ofNat (off / k))) (off % k)
    | _ => none
  | .pointer (some ⟨b, off, some m⟩) => match g b with
    | some (.lst _ k s) => lloadG (fun c => c[0]?) k s (.complex .f64 m 0) off
    | _ => none
  | .float _ k => match SymD.ptr k with
    | some c => c[0]?
    | none => none
  | _ => none

def rowOf (n : Nat) (c : List Value) (off : Nat) : Option Value :=
  let vs := (c.drop off).take n
  bif Nat.beq vs.length n then some (.agg ⟨vs⟩) else none

def qloadA [SymD] (n : Nat) (g : Nat → Option LB) (x : Value) : Option Value :=
  match x with
  | .pointer (some ⟨b, off, none⟩) => match g b with
    | some (.cells c) => rowOf n c off
    | some (.ro c) => rowOf n c off
    | some (.lst _ k s) => lloadG (fun c => rowOf n c 0) k s (.int .i64 (.ofNat (off / k))) (off % k)
    | _ => none
  | .pointer (some ⟨b, off, some m⟩) => match g b with
    | some (.lst _ k s) => lloadG (fun c => rowOf n c 0) k s (.complex .f64 m 0) off
    | _ => none
  | .float _ k => match SymD.ptr k with
    | some c => rowOf n c 0
    | none => none
  | _ => none

def qoff [SymD] (d : Nat) (x : Value) : Option Value :=
  match x with
  | .pointer (some ⟨b, off, none⟩) => some (.pointer (some ⟨b, Nat.add off d, none⟩))
  | .complex a n m => slk (.fad d) [.complex a n m] SymD.tab
  | .pointer (some ⟨b, off, some sp⟩) => some (.pointer (some ⟨b, Nat.add off d, some sp⟩))
  | .float a n => bif Nat.beq d 0 then (match SymD.ptr n with
    | some _ => some (.float a n)
    | none => none) else llk (.fad d) [.float a n] SymD.ltab
  | _ => none

def qconvI [SymD] (k : IntKind) (x : Value) : Option Value :=
  match x with
  | .int _ a => match a with
    | .ofNat m => bif Nat.blt m (lim k) then some (.int k (.ofNat m)) else some (.int k (k.wrap a))
    | _ => some (.int k (k.wrap a))
  | .complex a n m => slk (.conv k) [.complex a n m] SymD.tab
  | _ => none

def qext (i : Nat) (x : Value) : Option Value :=
  match x with
  | .tuple vs => vs.toList[i]?
  | _ => none

/-- the offset of a field that takes room -/
def foff (P : Program) (s : TypeId) (f : Nat) : Option Nat :=
  match P.underlying s with
  | some (.struct fs) => match fs.toList[f]? with
    | some fd => match P.info? fd.type with
      | some i => bif Nat.beq i.size 0 then none else some fd.offset
      | none => none
    | none => none
  | _ => none

theorem foff_eq (P : Program) (s : TypeId) (x : Value) (f : Nat) : lfieldAddr P s x f = (match foff P s f with | some d => qoff d x | none => none) := by
  have _s := SymV.val
  unfold lfieldAddr foff
  cases hu : P.underlying s with
  | none => rfl
  | some d =>
    cases d <;> try rfl
    rename_i fs
    have fin : ∀ (F : Nat → Option Value), (match fs.toList[f]? with
        | some fd => match P.info? fd.type with
          | some i => bif Nat.beq i.size 0 then none else F fd.offset
          | none => none
        | none => none) = (match (match fs.toList[f]? with
        | some fd => match P.info? fd.type with
          | some i => bif Nat.beq i.size 0 then none else some fd.offset
          | none => none
        | none => none) with
        | some d => F d
        | none => none) := by
      intro F
      cases fs.toList[f]? with
      | none => rfl
      | some fd =>
        simp only
        cases P.info? fd.type with
        | none => rfl
        | some i =>
          simp only
          cases Nat.beq i.size 0 <;> rfl
    have nof : ∀ (o : Option Nat), (none : Option Value) = (match o with
        | some _ => none
        | none => none) := fun o => by cases o <;> rfl
    cases x with
    | pointer a =>
      cases a with
      | none => exact nof _
      | some a =>
        obtain ⟨b, off, sp⟩ := a
        cases sp with
        | none => exact fin fun d => some (.pointer (some ⟨b, off + d, none⟩))
        | some sp => exact fin fun d => some (.pointer (some ⟨b, off + d, some sp⟩))
    | complex a n m => exact fin fun d => slk (.fad d) [.complex a n m] SymD.tab
    | float a n => exact fin fun d => bif Nat.beq d 0 then (match SymD.ptr n with
      | some _ => some (.float a n)
      | none => none) else llk (.fad d) [.float a n] SymD.ltab
    | _ => exact nof _

def lshape (P : Program) (t : TypeId) : Option (Bool × Nat) :=
  match P.underlying t, P.info? t with
  | some d, some i => some (isAggD d, i.size)
  | _, _ => none

def bshape (P : Program) (t : TypeId) : Option (List Value × (Nat → Option (Nat × Nat))) :=
  match P.info? t, P.underlying t with
  | some it, some (.array _ e) =>
    match it.zero, P.info? e with
    | some z, some ie => bif Nat.beq (ub z) 0 then some (z.cells.toList, fun i => some (i * ie.size, ie.size)) else none
    | _, _ => none
  | some it, some (.struct fs) =>
    match it.zero, lplaces P fs.toList with
    | some z, some places => bif Nat.beq (ub z) 0 then some (z.cells.toList, fun i => places[i]?) else none
    | _, _ => none
  | _, _ => none

theorem bshape_eq (P : Program) (t : TypeId) (parts : List (Nat × Value)) : lbuilt P t parts = (match bshape P t with | some (z, pl) => lfill pl z parts | none => none) := by
  have _s := SymV.val
  unfold lbuilt bshape
  cases P.info? t with
  | none => rfl
  | some it =>
    cases P.underlying t with
    | none => rfl
    | some d =>
      cases d <;> try rfl
      · rename_i el
        simp only
        cases it.zero with
        | none => rfl
        | some z =>
          generalize P.info? el = q
          cases q with
          | none => rfl
          | some ie =>
            simp only
            cases Nat.beq (ub z) 0 <;> rfl
      · rename_i fs
        simp only
        cases it.zero with
        | none => rfl
        | some z =>
          generalize lplaces P fs.toList = q
          cases q with
          | none => rfl
          | some ie =>
            simp only
            cases Nat.beq (ub z) 0 <;> rfl

/-- the operation made ready -/
noncomputable def kind [SymD] (P : Program) (X : ExtT) (o : Oper) : Kind :=
  match o.op with
  | .move x => .q fun _ ρ => some (ρ x)
  | .assign x => .q fun _ ρ => some (ρ x)
  | .pick c a b => .q fun _ ρ => qpick (ρ c) (ρ a) (ρ b)
  | .build t parts => match bshape P t with
    | some (z, pl) => .q fun _ ρ => (lfill pl z (parts.toList.map fun p => (p.1, ρ p.2))).map fun c => .agg ⟨c⟩
    | none => .q fun _ _ => none
  | .load t a => match lshape P t with
    | some (true, n) => .q fun g ρ => qloadA n g (ρ a)
    | some (false, _) => .q fun g ρ => qload1 g (ρ a)
    | none => .q fun _ _ => none
  | .nilCheck x => .q fun _ ρ => qnil (ρ x)
  | .binOp op t x y _ => withBin op fun N => .q fun _ ρ => fbin N P op t (isConst x || isConst y) (ρ x) (ρ y)
  | .unOp op _ x => .q fun _ ρ => qun op (ρ x)
  | .convert src dst x => bif Nat.beq src dst then .e fun ρ m => eop P X ρ ⟨o.dst, .convert src dst x, o.type, o.pos, o.after, o.guard⟩ m else match P.underlying src, P.underlying dst with
    | some _, some (.int k) => .q fun _ ρ => qconvI k (ρ x)
    | some .string, some (.slice _) => .a fun ρ n => aop P ρ ⟨o.dst, .convert src dst x, o.type, o.pos, o.after, o.guard⟩ n
    | _, _ => .q fun g ρ => lconv P g src dst (ρ x)
  | .makeInterface t x => .q fun g ρ => qop P g ρ ⟨o.dst, .makeInterface t x, o.type, o.pos, o.after, o.guard⟩
  | .makeFunc fn first captured => .q fun _ ρ => some (.func fn ⟨first.toList.map ρ⟩ ⟨captured.toList.map ρ⟩)
  | .fieldAddr s x f => match foff P s f with
    | some d => .q fun _ ρ => qoff d (ρ x)
    | none => .q fun _ _ => none
  | .field s x f => .q fun _ ρ => lfield P s (ρ x) f
  | .indexAddr t x i => .q fun g ρ => lindexAddr P g t (ρ x) (ρ i)
  | .index t x i => .q fun _ ρ => lindex P t (ρ x) (ρ i)
  | .lookup t x i ok => .q fun g ρ => llookup P g t (ρ x) (ρ i) ok
  | .extract x i => .q fun _ ρ => qext i (ρ x)
  | .slice t x lo hi mx => .q fun _ ρ => lslice P t (ρ x) (lo.map ρ) (hi.map ρ) (mx.map ρ)
  | .alloc e => .a fun ρ n => aop P ρ ⟨o.dst, .alloc e, o.type, o.pos, o.after, o.guard⟩ n
  | .box _ x => .a fun ρ n => some (.pointer (some ⟨n, 0, none⟩), .cells (ρ x).cells.toList)
  | op => bif isEff op then .e fun ρ m => eop P X ρ ⟨o.dst, op, o.type, o.pos, o.after, o.guard⟩ m
    else bif isAlcP P op then .a fun ρ n => aop P ρ ⟨o.dst, op, o.type, o.pos, o.after, o.guard⟩ n
    else .q fun g ρ => qop P g ρ ⟨o.dst, op, o.type, o.pos, o.after, o.guard⟩

theorem kind_spec (P : Program) (X : ExtT) (o : Oper) : kind P X o = (bif isEff o.op then .e fun ρ m => eop P X ρ o m else bif isAlcP P o.op then .a fun ρ n => aop P ρ o n else .q fun g ρ => qop P g ρ o) := by
  obtain ⟨dst, op, type, pos, after, guard⟩ := o
  cases op <;> try rfl
  case build t parts =>
    have : ∀ (g : Nat → Option LB) (ρ : Operand → Value), qop P g ρ ⟨dst, .build t parts, type, pos, after, guard⟩ = (match bshape P t with | some (z, pl) => (lfill pl z (parts.toList.map fun p => (p.1, ρ p.2))).map fun c => .agg ⟨c⟩ | none => none) := by
      intro g ρ
      simp only [qop, bshape_eq]
      cases bshape P t with
      | none => rfl
      | some p => rfl
    show (match bshape P t with | some (z, pl) => _ | none => _) = Kind.q _
    simp only [this]
    cases bshape P t with
    | none => rfl
    | some p => rfl
  case load t a =>
    have : ∀ (g : Nat → Option LB) (ρ : Operand → Value), qop P g ρ ⟨dst, .load t a, type, pos, after, guard⟩ = (match lshape P t with | some (true, n) => qloadA n g (ρ a) | some (false, _) => qload1 g (ρ a) | none => none) := by
      intro g ρ
      simp only [qop, lload, lshape, lloadL]
      cases P.underlying t with
      | none => simp only; (repeat' split) <;> rfl
      | some d =>
        cases P.info? t with
        | none => simp only; (repeat' split) <;> rfl
        | some i =>
          simp only
          cases isAggD d with
          | true => rfl
          | false => rfl
    show (match lshape P t with | some (true, n) => _ | some (false, _) => _ | none => _) = Kind.q _
    simp only [this]
    cases lshape P t with
    | none => rfl
    | some p => obtain ⟨b, n⟩ := p; cases b <;> rfl
  case binOp bop t x y ty =>
    have h1 : kind P X ⟨dst, .binOp bop t x y ty, type, pos, after, guard⟩ = withBin bop fun N => .q fun _ ρ => fbin N P bop t (isConst x || isConst y) (ρ x) (ρ y) := rfl
    rw [h1, withBin_eq]
    simp only [fbin_eq]
    rfl
  case convert src dst' x =>
    have hk : kind P X ⟨dst, .convert src dst' x, type, pos, after, guard⟩ = (bif Nat.beq src dst' then .e fun ρ m => eop P X ρ ⟨dst, .convert src dst' x, type, pos, after, guard⟩ m else match P.underlying src, P.underlying dst' with
      | some _, some (.int k) => .q fun _ ρ => qconvI k (ρ x)
      | some .string, some (.slice _) => .a fun ρ n => aop P ρ ⟨dst, .convert src dst' x, type, pos, after, guard⟩ n
      | _, _ => .q fun g ρ => lconv P g src dst' (ρ x)) := rfl
    cases hsd : Nat.beq src dst' with
    | true =>
      rw [hk]
      simp only [isEff, hsd, cond_true]
    | false =>
    have hr : ∀ k d, P.underlying src = some d → P.underlying dst' = some (.int k) → ∀ (g : Nat → Option LB) (ρ : Operand → Value), qop P g ρ ⟨dst, .convert src dst' x, type, pos, after, guard⟩ = qconvI k (ρ x) := by
      intro k d h1 h2 g ρ
      simp only [qop]
      unfold lconv qconvI
      simp only [h1, h2]
      cases ρ x <;> simp
      rename_i kd n
      cases n with
      | ofNat m =>
        simp only
        cases hb : Nat.blt m (lim k) with
        | true => have hwr : k.wrap (Int.ofNat m) = Int.ofNat m := wrap_lim (blt_lt hb); simp only [cond_true, hwr]; rfl
        | false => rfl
      | negSucc m => rfl
    rw [hk]
    simp only [isEff, hsd, cond_false]
    split
    · rename_i d k h1 h2
      have ha : isAlcP P (.convert src dst' x) = false := by simp only [isAlcP, isAlc, isConvB, h1, h2, Bool.false_or]
      simp only [ha, cond_false, hr k d h1 h2]
    · rename_i e h1 h2
      have ha : isAlcP P (.convert src dst' x) = true := by simp only [isAlcP, isAlc, isConvB, h1, h2, Bool.false_or]
      simp only [ha, cond_true]
    · rename_i n1 n2
      have ha : isAlcP P (.convert src dst' x) = false := by
        simp only [isAlcP, isAlc, isConvB, Bool.false_or]
      simp only [ha, cond_false]
      rfl
  case fieldAddr s x f =>
    have : ∀ (g : Nat → Option LB) (ρ : Operand → Value), qop P g ρ ⟨dst, .fieldAddr s x f, type, pos, after, guard⟩ = (match foff P s f with | some d => qoff d (ρ x) | none => none) := by
      intro g ρ
      simp only [qop, foff_eq]
    show (match foff P s f with | some d => _ | none => _) = Kind.q _
    simp only [this]
    cases foff P s f <;> rfl

/- the fast run -/
noncomputable def putK (f : LF) (dst : Option Nat) (v : Value) (m : LMem) (k : LF → LMem → Option (LF × LMem)) : Option (LF × LMem) :=
  match f.put dst v with
  | some f' => k f' m
  | none => none

noncomputable def doK (call : CallT) (r : Option (LN × LMem)) : Option (Value × LMem) :=
  match r with
  | some (.val v, m') => some (v, m')
  | some (.enter g args, m') => call g args m'
  | none => none

noncomputable def stepF [SymD] (P : Program) (X : ExtT) (call : CallT) (ops : List Oper) (o : Oper) (k : LF → LMem → Option (LF × LMem)) (f : LF) (m : LMem) : Option (LF × LMem) :=
  match lwanted ops o f with
  | none => none
  | some wt => bif wt then
    match kind P X o with
    | .q h => match h m.get f.lev with
      | some v => putK f o.dst v m k
      | none => none
    | .a h => match h f.lev m.next with
      | some (v, b) => match m.alloc b with
        | some m' => putK f o.dst v m' k
        | none => none
      | none => none
    | .e h => match doK call (h f.lev m) with
      | some (v, m') => putK f o.dst v m' k
      | none => none
    else putK f o.dst undef m k

noncomputable def runSeqF [SymD] (P : Program) (X : ExtT) (call : CallT) (ops : List Oper) (l : List Oper) : LF → LMem → Option (LF × LMem) :=
  List.rec (motive := fun _ => LF → LMem → Option (LF × LMem)) (fun f m => some (f, m)) (fun o _ ih f m => stepF P X call ops o ih f m) l

theorem runSeqF_eq (P : Program) (X : ExtT) (call : CallT) (ops : List Oper) : ∀ (l : List Oper) (f : LF) (m : LMem), runSeqF P X call ops l f m = runSeq P X call ops l f m
  | [], f, m => rfl
  | o :: r, f, m => by
    show stepF P X call ops o (runSeqF P X call ops r) f m = _
    have ih := runSeqF_eq P X call ops r
    have hk : runSeqF P X call ops r = runSeq P X call ops r := funext fun f => funext fun m => ih f m
    rw [hk]
    unfold stepF runSeq
    cases hw : lwanted ops o f with
    | none => rfl
    | some wt =>
    cases wt with
    | false => rfl
    | true =>
      simp only [cond_true, kind_spec, doOp]
      cases he : isEff o.op with
      | true =>
        simp only [cond_true, doEff, doK]
        cases eop P X f.lev o m with
        | none => rfl
        | some p =>
          obtain ⟨r', m'⟩ := p
          cases r' <;> rfl
      | false =>
        simp only [cond_false]
        cases ha : isAlcP P o.op with
        | true =>
          simp only [cond_true, doAlc]
          cases aop P f.lev o m.next with
          | none => rfl
          | some p =>
            obtain ⟨v, b⟩ := p
            simp only
            cases m.alloc b <;> rfl
        | false =>
          simp only [cond_false]
          cases qop P m.get f.lev o <;> rfl

noncomputable def seqX (r : Option (LX × LF × LMem)) (k : LF → LMem → Option (LX × LF × LMem)) : Option (LX × LF × LMem) :=
  match r with
  | some (.norm, f', m') => k f' m'
  | r => r

noncomputable def regF [SymD] (P : Program) (X : ExtT) (call : CallT) (ops : Array Oper) (draw : Bool) (f : LF) (m : LMem) : Option (LX × LF × LMem) :=
  bif draw then
    bif regOK ops.toList then
      (runDraw P X call ops.toList (masks ops.toList []) (regOrd ops.toList (masks ops.toList [])) f m m []).map fun r => (.norm, r.1, r.2)
    else none
  else bif ops.toList.all okOp then (runSeqF P X call ops.toList ops.toList f m).map fun r => (.norm, r.1, r.2) else none

noncomputable def condF [SymD] (x : Operand) (f : LF) (a b : Option (LX × LF × LMem)) : Option (LX × LF × LMem) :=
  match x with
  | .global _ => none
  | x => match f.lev x with
    | .bool true => a
    | .bool false => b
    | .complex k i j => match (bif okOperand x then tlk (.complex k i j) SymD.tab else none) with
      | some true => a
      | some false => b
      | none => none
    | _ => none

noncomputable def blockF (id : Nat) (r : Option (LX × LF × LMem)) : Option (LX × LF × LMem) :=
  match r with
  | some (.exit j, f', m') => bif Nat.beq j id then some (.norm, f', m') else some (.exit j, f', m')
  | r => r

noncomputable def stepC [SymD] (P : Program) (X : ExtT) (call : CallT) (ih : Code → LF → LMem → Option (LX × LF × LMem)) (c : Code) (f : LF) (m : LMem) : Option (LX × LF × LMem) :=
  match c with
  | .skip => some (.norm, f, m)
  | .region _ ops draw => regF P X call ops draw f m
  | .seq a b => seqX (ih a f m) (ih b)
  | .cond x a b => condF x f (ih a f m) (ih b f m)
  | .block id a => blockF id (ih a f m)
  | .loop a => seqX (ih a f m) (ih (.loop a))
  | .exit id => some (.exit id, f, m)
  | .scope a => ih a f m
  | .label _ => some (.norm, f, m)
  | .ret => some (.ret, f, m)
  | _ => none

noncomputable def execF [SymD] (P : Program) (X : ExtT) (call : CallT) (n : Nat) : Code → LF → LMem → Option (LX × LF × LMem) :=
  Nat.rec (motive := fun _ => Code → LF → LMem → Option (LX × LF × LMem)) (fun _ _ _ => none) (fun _ ih c f m => stepC P X call ih c f m) n

theorem execF_eq (P : Program) (X : ExtT) (call : CallT) : ∀ (n : Nat) (c : Code) (f : LF) (m : LMem), execF P X call n c f m = exec P X call n c f m
  | 0, c, f, m => rfl
  | n + 1, c, f, m => by
    show stepC P X call (execF P X call n) c f m = _
    have hk : execF P X call n = exec P X call n := funext fun c => funext fun f => funext fun m => execF_eq P X call n c f m
    rw [hk]
    cases c <;> try rfl
    case region id ops draw =>
      simp only [stepC, regF, exec]
      have : runSeqF P X call ops.toList ops.toList f m = runSeq P X call ops.toList ops.toList f m := runSeqF_eq P X call _ _ f m
      rw [this]

noncomputable def stepB [SymD] (P : Program) (X : ExtT) (fuel : Nat) (ih : CallT) (g : FuncId) (args : List Value) (m : LMem) : Option (Value × LMem) :=
  match P.funcs[g]? with
  | none => none
  | some fn => match fn.body with
    | none => none
    | some c =>
      bif Nat.ble args.length fn.ntmps && Nat.ble fn.ntmps 512 then
        match execF P X ih fuel c { tr := putArgs args 0 (FT.lf none), nt := fn.ntmps } m with
        | some (.norm, f', m') => (lresults P f' m' fn.results.toList).map fun vs => (ltuple vs, m')
        | some (.ret, f', m') => (lresults P f' m' fn.results.toList).map fun vs => (ltuple vs, m')
        | _ => none
      else none

noncomputable def stepCall [SymD] (P : Program) (X : ExtT) (prim : FuncId → Option (List Value → LMem → Option (Value × LMem))) (fuel : Nat) (ih : CallT) (g : FuncId) (args : List Value) (m : LMem) : Option (Value × LMem) :=
  match prim g with
  | some p => match p args m with
    | some r => some r
    | none => stepB P X fuel ih g args m
  | none => stepB P X fuel ih g args m

noncomputable def callFF [SymD] (P : Program) (X : ExtT) (prim : FuncId → Option (List Value → LMem → Option (Value × LMem))) (fuel : Nat) (n : Nat) : CallT :=
  Nat.rec (motive := fun _ => CallT) (fun _ _ _ => none) (fun _ ih g args m => stepCall P X prim fuel ih g args m) n

theorem callFF_eq (P : Program) (X : ExtT) (prim : FuncId → Option (List Value → LMem → Option (Value × LMem))) (fuel : Nat) : ∀ n, callFF P X prim fuel n = callF P X prim fuel n
  | 0 => rfl
  | n + 1 => by
    funext g args m
    show stepCall P X prim fuel (callFF P X prim fuel n) g args m = _
    rw [callFF_eq P X prim fuel n]
    simp only [stepCall, stepB, callF, callB, execF_eq]
    rfl
end Go.Eng
/- From a closed run to the call: what the engine's answer says of the program. -/
namespace Go.Eng
open Go.RowKit
variable [SymV]

def m0 : LMem := ⟨TM.lf none, 0⟩

theorem m0_get (id : Nat) : m0.get id = none := by
  have _s := SymV.val
  exact LMem.get_none (Nat.zero_le _)

theorem m0_wf : WF m0 := ⟨Nat.zero_le _, fun id b h => by rw [m0_get] at h; cases h⟩

/-- a call without arguments that answers true and leaves alone what was there -/
def Trues (P : Program) (f : FuncId) : Prop :=
  ∀ w, Calls P f #[] w fun e w' => e = .returned (.bool true) ∧ Below w.heap.size w w'

noncomputable def isTrue (r : Option (Value × LMem)) : Bool :=
  match r with
  | some (v, _) => match v with
    | .bool b => b
    | _ => false
  | none => false

theorem isTrue_some {r : Option (Value × LMem)} (h : isTrue r = true) : ∃ m, r = some (.bool true, m) := by
  have _s := SymV.val
  unfold isTrue at h
  split at h
  · split at h
    · subst h; exact ⟨_, rfl⟩
    · cases h
  · cases h

/-- nothing there -/
def phi0 : Phi := ⟨fun _ => none, fun _ => none, fun _ => false⟩

theorem trues_of {P : Program} {X : ExtT} (hP : POK P X) {prim : FuncId → Option (List Value → LMem → Option (Value × LMem))} (hp : PrimOK P prim) {fuel n : Nat} {f : FuncId}
    (h : isTrue (callFF P X prim fuel n f [] m0) = true) : Trues P f := by
  intro w
  obtain ⟨m, hm⟩ := isTrue_some h
  rw [callFF_eq] at hm
  have hs := (call_sound hP hp fuel n f [] m0 _ _ hm m0_wf).2 phi0 w []
    ⟨fun id l h => (by cases h), fun id h => (by cases h), fun id h => (by cases h), fun id jd l l' h => (by cases h), Pin.none fun _ => rfl⟩ (fun id h => absurd rfl h) .nil
  refine hs.mono fun e w' ⟨v', φ', he, hsim, hv, _, _⟩ => ?_
  cases hv
  exact ⟨he, hsim.fr.os, hsim.fr.tape, hsim.fr.output, hsim.fr.size, fun k hk => hsim.fr.same k hk fun id l h => by cases h⟩

/-- the primitive of such a call -/
def primTrue : List Value → LMem → Option (Value × LMem) := fun args m =>
  match args with
  | [] => some (.bool true, m)
  | _ => none

theorem primTrue_ok {P : Program} {g : FuncId} (hg : Trues P g) : ∀ args m v m', primTrue args m = some (v, m') → WF m → (m.next ≤ m'.next ∧ WF m') ∧
    ∀ φ w args', MR φ m.get w → Bd φ m.next → VRL φ args args' → Calls P g ⟨args'⟩ w (CallPost m m' v φ w) := by
  have _s := SymV.val
  have _s := SymV.val
  intro args m v m' h hw
  cases args with
  | cons a r => cases h
  | nil =>
    cases h
    refine ⟨⟨Nat.le_refl _, hw⟩, fun φ w args' hm hb ha => ?_⟩
    cases ha
    refine (hg w).mono fun e w' ⟨he, bel⟩ => ?_
    refine ⟨.bool true, φ, he, ⟨Ext.refl φ, fun id l h => .inl ⟨id, l, h, rfl⟩, fun _ _ h => h, fun _ _ h => .inl h, ⟨bel.os, bel.tape, bel.output, bel.size, fun k hk _ => bel.block k hk⟩⟩, .bool true, ⟨fun id l h => ?_, hm.dead, hm.nils, hm.inj, hm.pin.at fun b hb _ => bel.block b hb⟩, hb⟩
    obtain ⟨b, h1, h2⟩ := hm.live id l h
    exact ⟨b, h1, h2.mono (Ext.refl φ) (bel.block _ h2.lt)⟩

theorem noPrim (P : Program) : PrimOK P (fun _ => none) := by
  have _s := SymV.val
  exact fun _ _ h => by cases h

/-- one primitive -/
def prim1 (g : FuncId) (p : List Value → LMem → Option (Value × LMem)) : FuncId → Option (List Value → LMem → Option (Value × LMem)) :=
  fun f => bif Nat.beq f g then some p else none

theorem prim1_ok {P : Program} {g : FuncId} (hg : Trues P g) : PrimOK P (prim1 g primTrue) := by
  intro f p h
  unfold prim1 at h
  cases hb : Nat.beq f g with
  | false => rw [hb] at h; cases h
  | true =>
    rw [hb] at h
    cases h
    have := Nat.eq_of_beq_eq_true hb
    subst this
    exact primTrue_ok hg

/- the two numbers of math/bits -/
theorem three_run {P : Program} (name : String) (k1 k2 k3 : IntKind) (x y c : Int) (w : World) (hc : c.toNat ≤ 1) :
    Sem.run P (Extern.MathBitsCarry.three name ⟨[.int k1 x, .int k2 y, .int k3 c]⟩) w = .ok (x.toNat, y.toNat, c.toNat) w := by
  have _s := SymV.val
  have h3 : Extern.MathBitsCarry.three name ⟨[.int k1 x, .int k2 y, .int k3 c]⟩ = (do
    let c' := (← asInt (.int k3 c)).toNat
    if c' > 1 then unsupported (.noEntry ("extern/math/bits." ++ name ++ ": a carry that is neither 0 nor 1"))
    pure ((← asInt (.int k1 x)).toNat, (← asInt (.int k2 y)).toNat, c')) := rfl
  rw [h3]
  have ha : ∀ (k : IntKind) (z : Int), Sem.run P (asInt (.int k z)) w = .ok z w := fun _ _ => rfl
  simp only [ha, Sem.run_bind, Result.andThen]
  rw [if_neg (by omega)]
  simp only [ha, Sem.run_bind, Sem.run_pure, Result.andThen]

theorem add_run {P : Program} {f : FuncId} {fn : Func} (hf : P.funcs[f]? = some fn) (hname : (fn.name == "runtime.NumGoroutine") = false)
    (hb : fn.body.isNone = true) (hn : Extern.findNext fn = none) (he : Extern.find fn = some (fun args => do
      let (x, y, c) ← Extern.MathBitsCarry.three "Add64" args
      pure (Extern.MathBitsCarry.pair ((x + y + c) % Extern.MathBitsCarry.m64) ((x + y + c) / Extern.MathBitsCarry.m64)))) :
    ∀ args v w, ladd args = some v → (callFunc f ⟨args⟩).run P w = .ok (.value v) w := by
  intro args v w h
  rw [run_callFunc_extern hf hname hb hn he]
  unfold ladd at h
  split at h
  · rename_i k1 x k2 y k3 c
    cases hc : Nat.ble c.toNat 1 with
    | false => simp [hc] at h
    | true =>
      simp only [hc, cond_true, Option.some.injEq] at h
      subst h
      have hc1 := Nat.le_of_ble_eq_true hc
      have : c.toNat = 0 ∨ c.toNat = 1 := by omega
      have key : ∀ k : Nat, k ≤ 1 → c.toNat = k → Sem.run P (do
        let (x, y, c) ← Extern.MathBitsCarry.three "Add64" ⟨[.int k1 x, .int k2 y, .int k3 c]⟩
        pure (Extern.MathBitsCarry.pair ((x + y + c) % Extern.MathBitsCarry.m64) ((x + y + c) / Extern.MathBitsCarry.m64))) w =
          .ok (Extern.MathBitsCarry.pair ((x.toNat + y.toNat + k) % Extern.MathBitsCarry.m64) ((x.toNat + y.toNat + k) / Extern.MathBitsCarry.m64)) w := by
        intro k hk hck
        rw [Sem.run_bind, three_run _ _ _ _ _ _ _ _ (by omega), hck]
        rfl
      rw [key _ hc1 rfl]
      rfl
  · cases h

theorem sub_run {P : Program} {f : FuncId} {fn : Func} (hf : P.funcs[f]? = some fn) (hname : (fn.name == "runtime.NumGoroutine") = false)
    (hb : fn.body.isNone = true) (hn : Extern.findNext fn = none) (he : Extern.find fn = some (fun args => do
      let (x, y, b) ← Extern.MathBitsCarry.three "Sub64" args
      pure (Extern.MathBitsCarry.pair ((x + Extern.MathBitsCarry.m64 - y - b) % Extern.MathBitsCarry.m64) (if x < y + b then 1 else 0)))) :
    ∀ args v w, lsub args = some v → (callFunc f ⟨args⟩).run P w = .ok (.value v) w := by
  intro args v w h
  rw [run_callFunc_extern hf hname hb hn he]
  unfold lsub at h
  split at h
  · rename_i k1 x k2 y k3 c
    cases hc : Nat.ble c.toNat 1 with
    | false => simp [hc] at h
    | true =>
      simp only [hc, cond_true, Option.some.injEq] at h
      subst h
      have hc1 := Nat.le_of_ble_eq_true hc
      have key : ∀ k : Nat, k ≤ 1 → c.toNat = k → Sem.run P (do
        let (x, y, b) ← Extern.MathBitsCarry.three "Sub64" ⟨[.int k1 x, .int k2 y, .int k3 c]⟩
        pure (Extern.MathBitsCarry.pair ((x + Extern.MathBitsCarry.m64 - y - b) % Extern.MathBitsCarry.m64) (if x < y + b then 1 else 0))) w =
          .ok (Extern.MathBitsCarry.pair ((x.toNat + Extern.MathBitsCarry.m64 - y.toNat - k) % Extern.MathBitsCarry.m64) (if x.toNat < y.toNat + k then 1 else 0)) w := by
        intro k hk hck
        rw [Sem.run_bind, three_run _ _ _ _ _ _ _ _ (by omega), hck]
        rfl
      rw [key _ hc1 rfl]
      rfl
  · cases h

/-- no function of this name, seen by going through them -/
noncomputable def noName (l : List Func) : Bool := List.rec (motive := fun _ => Bool) true (fun f _ ih => bif f.name == "runtime.NumGoroutine" then false else ih) l

theorem noName_all : ∀ {l : List Func}, noName l = true → ∀ f ∈ l, (f.name == "runtime.NumGoroutine") = false
  | [], _, f, h => by have _s := SymV.val; cases h
  | x :: r, hn, f, h => by
    have hn' : (bif x.name == "runtime.NumGoroutine" then false else noName r) = true := hn
    cases hx : (x.name == "runtime.NumGoroutine") with
    | true => rw [hx] at hn'; cases hn'
    | false =>
      rw [hx] at hn'
      rcases List.mem_cons.1 h with rfl | h
      · exact hx
      · exact noName_all hn' f h

theorem clone_run {P : Program} {f : FuncId} {fn : Func} (hf : P.funcs[f]? = some fn) (hname : (fn.name == "runtime.NumGoroutine") = false)
    (hb : fn.body.isNone = true) (hn : Extern.findNext fn = none) (he : Extern.find fn = some Extern.MapsClone.clone) :
    ∀ t r w es ck, w.heap[r]? = some (.map es ck) → (callFunc f ⟨[.iface t (.map (some r))]⟩).run P w = .ok (.value (.iface t (.map (some w.heap.size)))) (w.alloc (.map es ck)) := by
  have _s := SymV.val
  intro t r w es ck h
  rw [run_callFunc_extern hf hname hb hn he]
  have hc : Extern.MapsClone.clone ⟨[.iface t (.map (some r))]⟩ = (do
    let .map entries clock ← getObj r | stuck "maps.clone: a map expected"
    pure (.iface t (.map (some (← newObj (.map entries clock)))))) := rfl
  rw [hc]
  have h1 : (getObj r).run P w = .ok (.map es ck) w := MapKept.run_getObj_map h
  have h2 : (newObj (.map es ck)).run P w = .ok w.heap.size (w.alloc (.map es ck)) := rfl
  simp only [Sem.run_bind, h1, h2, Result.andThen_ok, Sem.run_pure]

/-- nothing that is not known -/
instance noSymV : SymV := SymV.plain [] (fun _ => .int .i64 0) (fun _ => rfl) fun _ h => by cases h
end Go.Eng
/- Arguments that no run looks into: structs of integers, bools and slices, as the engine is handed them. -/
namespace Go.Eng
open Go.RowKit
variable [SymV]

inductive Sh where
  | int (k : IntKind)
  | bool
  | slice

def shOf (P : Program) (t : TypeId) : Option Sh :=
  match P.underlying t with
  | some (.int k) => some (.int k)
  | some .bool => some .bool
  | some (.slice _) => some .slice
  | _ => none

def shAll (P : Program) : List TypeId → Option (List Sh)
  | [] => some []
  | t :: r => match shOf P t with
    | none => none
    | some s => match shAll P r with
      | none => none
      | some l => some (s :: l)

def shs (P : Program) (t : TypeId) : Option (List Sh) :=
  match P.cellTypes P.depth t with
  | some ts => shAll P ts
  | none => none

/-- a cell of that shape -/
def Fits1 : Sh → Value → Prop
  | .int k, v => ∃ n, v = .int k n ∧ k.has n
  | .bool, v => ∃ b, v = .bool b
  | .slice, v => v = .slice none 0 0 ∨ ∃ a len cap, v = .slice (some a) len cap ∧ len ≤ cap

inductive FitsL : List Sh → List Value → Prop where
  | nil : FitsL [] []
  | cons (s : Sh) (v : Value) (l : List Sh) (vs : List Value) : Fits1 s v → FitsL l vs → FitsL (s :: l) (v :: vs)

theorem fits1_of {P : Program} {w : World} {r : Reach} {base : Nat} {t : TypeId} {s : Sh} {v : Value} (hs : shOf P t = some s) (h : Cell.okWide P w r base t v) : Fits1 s v := by
  have _s := SymV.val
  unfold shOf at hs
  split at hs <;> cases hs
  · rename_i k hu
    simp only [Cell.okWide, hu] at h
    cases v <;> simp_all [Cell.ok, Fits1]
  · rename_i hu
    simp only [Cell.okWide, hu] at h
    cases v <;> simp_all [Cell.ok, Fits1]
  · rename_i e hu
    simp only [Cell.okWide, hu] at h
    cases v <;> try (simp_all [Cell.ok]; done)
    rename_i a len cap
    cases a with
    | none =>
      left
      unfold Cell.ok at h
      rw [hu] at h
      split at h <;> simp_all
    | some a =>
      right
      unfold Cell.ok at h
      rw [hu] at h
      simp only at h
      exact ⟨a, len, cap, rfl, h.1⟩

theorem fitsL_of {P : Program} {w : World} {r : Reach} {base : Nat} : ∀ (ts : List TypeId) (l : List Sh) (vs : List Value), shAll P ts = some l → vs.length = ts.length →
    (∀ (i : Nat) (v : Value), vs[i]? = some v → ∃ u, ts[i]? = some u ∧ Cell.okWide P w r base u v) → FitsL l vs
  | [], l, vs, hl, hn, _ => by
    cases hl
    cases vs with
    | nil => exact .nil
    | cons x r => simp at hn
  | t :: ts, l, vs, hl, hn, h => by
    cases vs with
    | nil => simp at hn
    | cons v vs =>
      simp only [shAll] at hl
      split at hl
      · cases hl
      · rename_i s hs
        split at hl
        · cases hl
        · rename_i l' hl'
          cases hl
          obtain ⟨u, hu, hv⟩ := h 0 v rfl
          cases hu
          refine .cons _ _ _ _ (fits1_of hs hv) (fitsL_of (w := w) (r := r) (base := base) ts l' vs hl' (by simpa using hn) fun i x hx => ?_)
          exact h (i + 1) x (by simpa using hx)

theorem fits_struct {P : Program} {w : World} {r : Reach} {base : Nat} {t : TypeId} {l : List Sh} {v : Value} (hu : ∃ fs, P.underlying t = some (.struct fs)) (hl : shs P t = some l) (hn : P.cellsOf t = l.length)
    (h : Value.okWide P w r base t v) : ∃ cs, v = .agg cs ∧ FitsL l cs.toList := by
  obtain ⟨fs, hu⟩ := hu
  simp only [Value.okWide, hu] at h
  obtain ⟨cs, rfl, hsz, ts, hts, ⟨n, hm⟩, hc⟩ := h
  refine ⟨cs, rfl, ?_⟩
  unfold shs at hl
  rw [hts] at hl
  have hlen : ∀ (ts : List TypeId) (l : List Sh), shAll P ts = some l → l.length = ts.length := by
    intro ts
    induction ts with
    | nil => intro l h; cases h; rfl
    | cons t r ih =>
      intro l h
      simp only [shAll] at h
      split at h
      · cases h
      · split at h
        · cases h
        · rename_i l' hl'
          cases h
          simp [ih l' hl']
  have hll := hlen ts l hl
  refine fitsL_of (w := w) (r := r) (base := base) ts l cs.toList hl (by rw [Array.length_toList, hsz, hn, hll]) fun i x hx => ?_
  have hx' : cs[i]? = some x := by simpa using hx
  obtain ⟨u, hu', hv⟩ := hc i x hx'
  have hi : i < cs.size := (Array.getElem?_eq_some_iff.1 hx').1
  rw [Nat.mod_eq_of_lt (by omega)] at hu'
  exact ⟨u, hu', hv⟩

/-- the logical cells: integers and bools by number, slices dead or nil -/
def lmk : List Sh → (Nat → Int) → (Nat → Bool) → List (Option (Nat × Nat)) → List Value
  | [], _, _, _ => []
  | .int k :: r, n, b, sl => .int k (n 0) :: lmk r (fun i => n (i + 1)) b sl
  | .bool :: r, n, b, sl => .bool (b 0) :: lmk r n (fun i => b (i + 1)) sl
  | .slice :: r, n, b, sl => match sl with
    | [] => []
    | none :: sl => .slice none 0 0 :: lmk r n b sl
    | some (len, cap) :: sl => .slice (some ⟨0, 0, none⟩) len cap :: lmk r n b sl

def slices : List Sh → Nat
  | [] => 0
  | .slice :: r => slices r + 1
  | _ :: r => slices r

theorem fits_mk {φ : Phi} (hφ : φ 0 = some none) {l : List Sh} {vs : List Value} (h : FitsL l vs) : ∃ n b sl, sl.length = slices l ∧ (∀ x ∈ sl, ∀ y, x = some y → y.1 ≤ y.2) ∧ VRL φ (lmk l n b sl) vs := by
  have _s := SymV.val
  have _s := SymV.val
  induction h with
  | nil => exact ⟨fun _ => 0, fun _ => false, [], rfl, by simp, .nil⟩
  | cons s v l vs h1 _ ih =>
    obtain ⟨n, b, sl, i1, i2, i3⟩ := ih
    cases s with
    | int k =>
      obtain ⟨x, rfl, _⟩ := h1
      exact ⟨fun i => Nat.casesOn i x n, b, sl, i1, i2, .cons _ _ _ _ (.int k x) i3⟩
    | bool =>
      obtain ⟨x, rfl⟩ := h1
      exact ⟨n, fun i => Nat.casesOn i x b, sl, i1, i2, .cons _ _ _ _ (.bool x) i3⟩
    | slice =>
      rcases h1 with rfl | ⟨a, len, cap, rfl, hle⟩
      · exact ⟨n, b, none :: sl, by simp [slices, i1], by
          intro x hx y hy
          rcases List.mem_cons.1 hx with rfl | hx
          · cases hy
          · exact i2 x hx y hy, .cons _ _ _ _ (.snil 0 0) i3⟩
      · exact ⟨n, b, some (len, cap) :: sl, by simp [slices, i1], by
          intro x hx y hy
          rcases List.mem_cons.1 hx with rfl | hx
          · cases hy; exact hle
          · exact i2 x hx y hy, .cons _ _ _ _ (.sdead 0 0 none len cap cap a hφ hle (Nat.le_refl _) fun _ => rfl) i3⟩

/-- a memory with one dead block -/
def m1 : LMem := ⟨TM.lf (some .dead), 1⟩
def phi1 : Phi := ⟨fun id => match id with
  | 0 => some none
  | _ => none, fun _ => none, fun _ => false⟩

theorem m1_get (id : Nat) (b : LB) (h : m1.get id = some b) : b = .dead := by
  have _s := SymV.val
  have hlt := LMem.get_lt h
  rw [LMem.get_tr hlt] at h
  have : TM.get m1.tr id = some .dead := TM.get_lf _ _
  rw [this] at h
  cases h; rfl

theorem m1_wf : WF m1 := ⟨by show 1 ≤ 16384; omega, fun id b h => by rw [m1_get id b h]; exact Nat.zero_le _⟩

theorem phi1_live (id : Nat) (l : Loc) (h : phi1 id = some (some l)) : False := by
  have _s := SymV.val
  cases id with
  | zero => cases h
  | succ n => cases h

/-- a call that answers true and leaves alone what was there -/
theorem true_call {P : Program} {X : ExtT} (hP : POK P X) {prim : FuncId → Option (List Value → LMem → Option (Value × LMem))} (hp : PrimOK P prim) {fuel n : Nat} {f : FuncId} {args args' : List Value}
    (h : isTrue (callFF P X prim fuel n f args m1) = true) (ha : VRL phi1 args args') (w : World) :
    Calls P f ⟨args'⟩ w fun e w' => e = .returned (.bool true) ∧ Below w.heap.size w w' := by
  obtain ⟨m, hm⟩ := isTrue_some h
  rw [callFF_eq] at hm
  have hd : ∀ id, phi1 id = some none → m1.get id = some .dead := by
    intro id h
    cases id with
    | zero => rfl
    | succ n => cases h
  have hb : Bd phi1 m1.next := by
    intro id h
    cases id with
    | zero => exact Nat.zero_lt_one
    | succ n => exact absurd rfl h
  have hs := (call_sound hP hp fuel n f args m1 _ _ hm m1_wf).2 phi1 w args'
    ⟨fun id l h => (phi1_live id l h).elim, fun id h _ => hd id h, fun id h h' => (by cases h'), fun id jd l l' h => (phi1_live id l h).elim, Pin.none fun _ => rfl⟩ hb ha
  refine hs.mono fun e w' ⟨v', φ', he, hsim, hv, _, _⟩ => ?_
  cases hv
  exact ⟨he, hsim.fr.os, hsim.fr.tape, hsim.fr.output, hsim.fr.size, fun k hk => hsim.fr.same k hk fun id l h => (phi1_live id l h).elim⟩
end Go.Eng
/- What runs between cut points need: memories told as lists, frames of which some temporaries are known. -/
namespace Go.Eng
variable [SymV]

def iv (n : Nat) : Value := .int .i64 (.ofNat n)
def nv (n : Nat) : Value := .int .i64 (.negSucc n)

/-- what 'CallSound' says of one call -/
def SC (P : Program) (g : FuncId) (args : List Value) (m : LMem) (v : Value) (m' : LMem) : Prop :=
  (m.next ≤ m'.next ∧ WF m') ∧ ∀ φ w args', MR φ m.get w → Bd φ m.next → VRL φ args args' → Calls P g ⟨args'⟩ w (CallPost m m' v φ w)

def lk : List (Nat × LB) → Nat → Option LB
  | [], _ => none
  | (i, b) :: r, j => if i = j then some b else lk r j

noncomputable def fill (t : TM LB) : List (Nat × LB) → TM LB
  | [] => t
  | (i, b) :: r => TM.set (fill t r) i b

theorem fill_get {t : TM LB} {j : Nat} (hj : j < 65536) : ∀ {l : List (Nat × LB)}, (∀ p ∈ l, p.1 < 65536) → TM.get (fill t l) j = (match lk l j with | some b => some b | none => TM.get t j)
  | [], _ => by have _s := SymV.val; have _s := SymV.val; exact rfl
  | (i, b) :: r, h => by
    have hi : i < 65536 := h (i, b) (by simp)
    have ih := fill_get (t := t) hj (l := r) fun p hp => h p (by simp [hp])
    simp only [fill, lk]
    rw [TM.get_set]
    by_cases he : i = j
    · subst he; simp
    · rw [if_neg (by omega), if_neg he, ih]

noncomputable def mem (n : Nat) (l : List (Nat × LB)) : LMem := ⟨fill (TM.lf (some .dead)) l, n⟩

theorem lk_mem : ∀ {l : List (Nat × LB)} {j : Nat} {b : LB}, lk l j = some b → (j, b) ∈ l
  | [], _, _, h => by have _s := SymV.val; simp [lk] at h
  | (i, b') :: r, j, b, h => by
    simp only [lk] at h
    by_cases he : i = j
    · rw [if_pos he] at h; cases h; subst he; simp
    · rw [if_neg he] at h; have := lk_mem h; simp [this]

theorem lk_none : ∀ {l : List (Nat × LB)} {j : Nat}, lk l j = none → ∀ p ∈ l, p.1 ≠ j
  | [], _, _, p, hp => by have _s := SymV.val; simp at hp
  | (i, b') :: r, j, h, p, hp => by
    simp only [lk] at h
    by_cases he : i = j
    · rw [if_pos he] at h; cases h
    · rw [if_neg he] at h
      rcases List.mem_cons.1 hp with rfl | hp
      · exact he
      · exact lk_none h p hp

theorem mem_get {n : Nat} {l : List (Nat × LB)} {j : Nat} (hl : ∀ p ∈ l, p.1 < 65536) (hn : n ≤ 16384) (hj : j < n) : (mem n l).get j = some ((lk l j).getD .dead) := by
  have h1 : (mem n l).get j = TM.get (fill (TM.lf (some .dead)) l) j := LMem.get_tr (m := mem n l) hj
  rw [h1, fill_get (by omega) hl]
  cases lk l j with
  | none => exact TM.get_lf _ _
  | some b => rfl

theorem mem_wf {n : Nat} {l : List (Nat × LB)} (hn : n ≤ 16384) (hl : ∀ p ∈ l, p.1 < n ∧ ubB p.2 ≤ n) : WF (mem n l) := by
  refine ⟨hn, fun id b h => ?_⟩
  have hid : id < n := LMem.get_lt h
  rw [mem_get (fun p hp => by have := (hl p hp).1; omega) hn hid] at h
  cases h
  show ubB ((lk l id).getD .dead) ≤ n
  cases hk : lk l id with
  | none => exact Nat.zero_le _
  | some b => exact (hl _ (lk_mem hk)).2

abbrev PrimT := FuncId → Option (List Value → LMem → Option (Value × LMem))
end Go.Eng
namespace Go.Eng
def AnyV (y : Value) : Prop := ∀ (S : SymV) (ψ : Phi), ψ 0 = some none → ∃ v, @VR S ψ v y

theorem DenF.anyV {fz : Nat → Option Obj} {v d : Value} (h : DenF fz v d) : AnyV v := fun S ψ h0 => by
  cases h with
  | sc v ho =>
    cases v with
    | int k n => exact ⟨_, .int k n⟩
    | bool b => exact ⟨_, .bool b⟩
    | string s => exact ⟨_, .string s⟩
    | pointer a => cases a with
      | none => exact ⟨_, .pnil⟩
      | some a => exact ⟨.pointer (some ⟨0, 0, none⟩), .pdead 0 0 none a h0⟩
    | slice a n c => cases a with
      | none => exact ⟨_, .snil n c⟩
      | some a => exact ⟨.slice (some ⟨0, 0, none⟩) n c, .sdead 0 0 none n c c a h0 (Nat.le_of_ble_eq_true ho) (Nat.le_refl _) fun _ => rfl⟩
    | _ => cases ho
  | list b o n k cap c e m rs us h1 h2 h3 => exact ⟨.slice (some ⟨0, 0, none⟩) n cap, .sdead 0 0 none n cap cap _ h0 h3 (Nat.le_refl _) fun _ => rfl⟩
  | place => exact ⟨.pointer (some ⟨0, 0, none⟩), .pdead 0 0 none _ h0⟩

mutual
theorem VR.anyV {S1 : SymV} {φ : Phi} : ∀ {x y : Value}, @VR S1 φ x y → AnyV y
  | _, _, .bool b => fun S ψ h => ⟨_, .bool b⟩
  | _, _, .int k n => fun S ψ h => ⟨_, .int k n⟩
  | _, _, .string s => fun S ψ h => ⟨_, .string s⟩
  | _, _, .lsym k n v hd => hd.anyV
  | _, _, .sym k n m v hv => fun S ψ h => by
    have ho := S1.one n
    rw [← hv] at ho
    cases v with
    | int k n => exact ⟨_, .int k n⟩
    | bool b => exact ⟨_, .bool b⟩
    | string s => exact ⟨_, .string s⟩
    | pointer a => cases a with
      | none => exact ⟨_, .pnil⟩
      | some a => exact ⟨.pointer (some ⟨0, 0, none⟩), .pdead 0 0 none a h⟩
    | slice a n c => cases a with
      | none => exact ⟨_, .snil n c⟩
      | some a => exact ⟨.slice (some ⟨0, 0, none⟩) n c, .sdead 0 0 none n c c a h (Nat.le_of_ble_eq_true ho) (Nat.le_refl _) fun _ => rfl⟩
    | _ => cases ho
  | _, _, .cnil => fun S ψ h => ⟨_, .cnil⟩
  | _, _, .chan b cap l hl h2 h3 => fun S ψ h => ⟨.slice (some ⟨0, 0, none⟩) l.n cap, .sdead 0 0 none l.n cap cap _ h h2 (Nat.le_refl _) fun _ => rfl⟩
  | _, _, .chnil b hl => fun S ψ h => ⟨_, .snil 0 0⟩
  | _, _, .chdead b n cap a hl hn h2 => fun S ψ h => ⟨.slice (some ⟨0, 0, none⟩) n cap, .sdead 0 0 none n cap cap _ h h2 (Nat.le_refl _) fun _ => rfl⟩
  | _, _, .pnil => fun S ψ h => ⟨_, .pnil⟩
  | _, _, .ptr b off l hl => fun S ψ h => ⟨.pointer (some ⟨0, 0, none⟩), .pdead 0 0 none _ h⟩
  | _, _, .prow b off s l k i hl hs => fun S ψ h => ⟨.pointer (some ⟨0, 0, none⟩), .pdead 0 0 none _ h⟩
  | _, _, .pdead b off sp a hl => fun S ψ h => ⟨.pointer (some ⟨0, 0, none⟩), .pdead 0 0 none _ h⟩
  | _, _, .snil n c => fun S ψ h => ⟨_, .snil n c⟩
  | _, _, .slice b off sp len cap cap' l hl h1 h2 h3 h4 => fun S ψ h => ⟨.slice (some ⟨0, 0, none⟩) len cap', .sdead 0 0 none len cap' cap' _ h (Nat.le_trans h1 h2) (Nat.le_refl _) fun _ => rfl⟩
  | _, _, .sdead b off sp len cap cap' a hl h1 h2 h3 => fun S ψ h => ⟨.slice (some ⟨0, 0, none⟩) len cap', .sdead 0 0 none len cap' cap' _ h (Nat.le_trans h1 h2) (Nat.le_refl _) fun _ => rfl⟩
  | _, _, .szero b off e o l hl => fun S ψ h => ⟨.slice (some ⟨0, 0, none⟩) 0 0, .sdead 0 0 none 0 0 0 _ h (Nat.le_refl _) (Nat.le_refl _) fun _ => rfl⟩
  | _, _, .mnil => fun S ψ h => ⟨_, .mnil⟩
  | _, _, .map r l hl => fun S ψ h => ⟨.map (some 0), .mdead 0 _ h⟩
  | _, _, .mdead r r' hl => fun S ψ h => ⟨.map (some 0), .mdead 0 _ h⟩
  | _, _, .func fn xs us ys vs h1 h2 => fun S ψ h => by
    obtain ⟨a, ha⟩ := VRL.anyV h1 S ψ h
    obtain ⟨b, hb⟩ := VRL.anyV h2 S ψ h
    exact ⟨_, .func fn ⟨a⟩ ⟨b⟩ ys vs ha hb⟩
  | _, _, .nilFunc => fun S ψ h => ⟨_, .nilFunc⟩
  | _, _, .iface t x y h1 => fun S ψ h => by
    obtain ⟨a, ha⟩ := VR.anyV h1 S ψ h
    exact ⟨_, .iface t a y ha⟩
  | _, _, .nilIface => fun S ψ h => ⟨_, .nilIface⟩
  | _, _, .agg xs ys h1 => fun S ψ h => by
    obtain ⟨a, ha⟩ := VRL.anyV h1 S ψ h
    exact ⟨_, .agg ⟨a⟩ ys ha⟩
  | _, _, .tuple xs ys h1 => fun S ψ h => by
    obtain ⟨a, ha⟩ := VRL.anyV h1 S ψ h
    exact ⟨_, .tuple ⟨a⟩ ys ha⟩
theorem VRL.anyV {S1 : SymV} {φ : Phi} : ∀ {x y : List Value}, @VRL S1 φ x y → ∀ (S : SymV) (ψ : Phi), ψ 0 = some none → ∃ v, @VRL S ψ v y
  | _, _, .nil => fun S ψ h => ⟨[], .nil⟩
  | _, _, .cons x y xs ys h1 h2 => fun S ψ h => by
    obtain ⟨a, ha⟩ := VR.anyV h1 S ψ h
    obtain ⟨b, hb⟩ := VRL.anyV h2 S ψ h
    exact ⟨_, .cons a y b ys ha hb⟩
end

/-- the frame, as far as it matters -/
structure FL [SymV] (live : List (Nat × Value)) (nt : Nat) (φ : Phi) (a : Act) : Prop where
  size : a.tmps.size = nt
  nt : nt ≤ 512
  val : ∀ p ∈ live, VR φ p.2 (a.tmps.getD p.1 undef)
  any : ∀ t, AnyV (a.tmps.getD t undef)

noncomputable def fillF (u : Nat → Value) : List Nat → FT Value → FT Value
  | [], t => t
  | i :: r, t => fillF u r (FT.set t i (u i))
noncomputable def liveF : List (Nat × Value) → FT Value → FT Value
  | [], t => t
  | p :: r, t => liveF r (FT.set t p.1 p.2)
/-- a frame: some temporaries known, the others open -/
noncomputable def mkF (live : List (Nat × Value)) (u : Nat → Value) (nt : Nat) : LF := ⟨liveF live (fillF u (List.range nt) (FT.lf none)), nt⟩

theorem fillF_get (u : Nat → Value) : ∀ (l : List Nat) (t : FT Value), (∀ i ∈ l, i < 512) → ∀ j, j < 512 → FT.get (fillF u l t) j = if j ∈ l then some (u j) else FT.get t j
  | [], t, _, j, _ => by simp [fillF]
  | i :: r, t, h, j, hj => by
    rw [fillF, fillF_get u r _ (fun k hk => h k (by simp [hk])) j hj, FT.get_set t i j (u i) (h i (by simp)) hj]
    by_cases h1 : j ∈ r
    · simp [h1]
    · by_cases h2 : i = j
      · subst h2; simp
      · simp [h1, h2, Ne.symm h2]

theorem liveF_get {R : Nat → Value → Prop} : ∀ (l : List (Nat × Value)) (t : FT Value), (∀ p ∈ l, p.1 < 512 ∧ R p.1 p.2) → (∀ j, j < 512 → ∀ v, FT.get t j = some v → R j v) → (∀ j, j < 512 → FT.get t j ≠ none → FT.get (liveF l t) j ≠ none) ∧ ∀ j, j < 512 → ∀ v, FT.get (liveF l t) j = some v → R j v
  | [], t, _, ht => ⟨fun _ _ h => h, ht⟩
  | p :: r, t, h, ht => by
    have hp := h p (by simp)
    obtain ⟨g1, g2⟩ := liveF_get (R := R) r (FT.set t p.1 p.2) (fun q hq => h q (by simp [hq])) fun j hj v hv => by
      rw [FT.get_set t p.1 j p.2 hp.1 hj] at hv
      by_cases he : p.1 = j
      · rw [if_pos he] at hv; cases hv; rw [← he]; exact hp.2
      · rw [if_neg he] at hv; exact ht j hj v hv
    refine ⟨fun j hj hn => g1 j hj ?_, g2⟩
    rw [FT.get_set t p.1 j p.2 hp.1 hj]
    by_cases he : p.1 = j
    · rw [if_pos he]; simp
    · rw [if_neg he]; exact hn

variable [SymV]

theorem mkF_ok {live : List (Nat × Value)} {nt : Nat} {φ : Phi} {a : Act} (h : FL live nt φ a) (hl : ∀ p ∈ live, p.1 < nt) (hφ : φ 0 = some none) : ∃ u, FR φ (mkF live u nt) a := by
  have hu : ∀ t, ∃ v, VR φ v (a.tmps.getD t undef) := fun t => h.any t _ φ hφ
  refine ⟨fun t => Classical.choose (hu t), h.size, ⟨h.nt⟩, fun i => ?_⟩
  have hnt := h.nt
  by_cases hi : i < nt
  · obtain ⟨g1, g2⟩ := liveF_get (R := fun j v => VR φ v (a.tmps.getD j undef)) live (fillF (fun t => Classical.choose (hu t)) (List.range nt) (FT.lf none))
      (fun p hp => ⟨by have := hl p hp; omega, h.val p hp⟩) fun j hj v hv => by
        rw [fillF_get _ _ _ (fun k hk => by have := List.mem_range.1 hk; omega) j hj] at hv
        split at hv
        · cases hv; exact Classical.choose_spec (hu j)
        · rw [FT.get_lf] at hv; cases hv
    have hn := g1 i (by omega) (by
      rw [fillF_get _ _ _ (fun k hk => by have := List.mem_range.1 hk; omega) i (by omega), if_pos (List.mem_range.2 hi)]; simp)
    rw [LF.get_lt (by exact hi)]
    show VR φ ((FT.get (liveF live (fillF (fun t => Classical.choose (hu t)) (List.range nt) (FT.lf none))) i).getD undef) _
    cases hg : FT.get (liveF live (fillF (fun t => Classical.choose (hu t)) (List.range nt) (FT.lf none))) i with
    | none => exact absurd hg hn
    | some v => exact g2 i (by omega) v hg
  · have e1 : (mkF live (fun t => Classical.choose (hu t)) nt).get i = undef := by
      unfold LF.get mkF
      show Bool.rec (motive := fun _ => Value) undef _ (Nat.blt i nt) = undef
      rw [blt_false (by omega)]
    have e2 : a.tmps.getD i undef = undef := by
      rw [Array.getD_eq_getD_getElem?, Array.getElem?_eq_none (by rw [h.size]; omega)]; rfl
    rw [e1, e2]
    exact .undef

end Go.Eng
/- A drawn region of which one operation waits for all others: the others by a run, and that one behind them. -/
namespace Go.Eng
section
variable {P : Program}

/-- an exit by the operations ahead is followed by the last operation -/
def Qlast (P : Program) (ops : Array Oper) (n : Nat) (Q : Exit → Act → World → Prop) : Exit → Act → World → Prop
  | .normal => fun a w => wpOp P ops Q n (Q .normal) a w
  | e => Q e

theorem wp_Qlast {ops : Array Oper} {n : Nat} {Q : Exit → Act → World → Prop} {o : Oper} {a : Act} {w : World} {K : Act → World → Prop} (h : o.wp P a w K (Qlast P ops n Q)) : o.wp P a w K Q := by
  unfold Oper.wp at *
  generalize (execOp a.eval o).run P w = r at *
  cases r with
  | ok x w' => cases x <;> exact h
  | halt x w' => cases x <;> exact h

theorem push_getD {l : Array Bool} (i : Nat) : (l.push false).getD i false = l.getD i false := by
  simp only [Array.getD_eq_getD_getElem?, Array.getElem?_push]
  split
  · rename_i h; subst h; simp
  · rfl

theorem push_set {l : Array Bool} {i : Nat} (h : i < l.size) : (l.push false).setIfInBounds i true = (l.setIfInBounds i true).push false := by
  apply Array.ext_getElem?
  intro j
  simp only [Array.getElem?_setIfInBounds, Array.getElem?_push, Array.size_push, Array.size_setIfInBounds]
  by_cases h1 : i = j
  · subst h1
    simp [h, Nat.lt_succ_of_lt h, Nat.ne_of_lt h]
  · simp [h1]

theorem wpOp_last {L : List Oper} {o : Oper} {Q : Exit → Act → World → Prop} {i : Nat} (hi : i < L.length) (hg : ∀ x ∈ L, ∀ g b, x.guard = some (g, b) → g < L.length) {K : Act → World → Prop} {a : Act} {w : World}
    (h : wpOp P L.toArray (Qlast P (L ++ [o]).toArray L.length Q) i K a w) : wpOp P (L ++ [o]).toArray Q i K a w := by
  unfold wpOp at *
  have e1 : (L ++ [o]).toArray[i]? = L.toArray[i]? := by simp [List.getElem?_append_left hi]
  rw [e1]
  cases hx : L.toArray[i]? with
  | none => rw [hx] at h; exact h
  | some x =>
    rw [hx] at h
    simp only at h ⊢
    have hm : x ∈ L := List.mem_of_getElem? (l := L) (i := i) (by simpa using hx)
    have e2 : Region.wanted x (yielded (L ++ [o]).toArray a.tmps) = Region.wanted x (yielded L.toArray a.tmps) := by
      unfold Region.wanted
      cases hgd : x.guard with
      | none => rfl
      | some gb =>
        obtain ⟨g, b⟩ := gb
        have := hg x hm g b hgd
        simp only [yielded]
        have e3 : (L ++ [o]).toArray[g]? = L.toArray[g]? := by simp [List.getElem?_append_left this]
        rw [e3]
    rw [e2]
    split
    · rename_i hw
      simp only [hw, if_true] at h
      exact h.imp wp_Qlast id
    · rename_i hw
      simp only [hw] at h
      exact h
end
section
variable [SymV] {P : Program}

theorem all_listed {L : List Oper} {ord : List Nat} {listed : Array Bool} (hG : RegOK L (masks L []) ord) (hsz : listed.size = L.length) (h : Region.ready .any L.toArray listed = []) : ∀ i, i < L.length → listed.getD i false = true := by
  have key : ∀ (q i : Nat), ord[q]? = some i → listed.getD i false = true := by
    intro q
    induction q using Nat.strongRecOn with
    | _ q ih =>
      intro i hi
      cases hf : listed.getD i false with
      | true => rfl
      | false =>
        exfalso
        have hlt := hG.lt q i hi
        obtain ⟨x, hx⟩ : ∃ x, L[i]? = some x := ⟨_, List.getElem?_eq_getElem hlt⟩
        have hmem : i ∈ Region.ready .any L.toArray listed := by
          rw [mem_ready]
          have hil : i < listed.size := by omega
          refine ⟨by simp [hil] at hf ⊢; exact hf, x, by simpa using hx, fun e he hb => ?_⟩
          rw [binds_eq] at hb
          have hm := mask_direct hx (e := e) (by simpa using he) hb
          obtain ⟨q', hq', he'⟩ := hG.ahead q i e.on hi hm
          exact ih q' hq' _ he'
        rw [h] at hmem; cases hmem
  intro i hi
  obtain ⟨q, hq⟩ := hG.all i hi
  exact key q i hq

theorem wpAny_last {L : List Oper} {o : Oper} {ord : List Nat} {Q : Exit → Act → World → Prop} (hG : RegOK L (masks L []) ord) (hmask : ∀ i, i < L.length → tb ((masks (L ++ [o]) []).getD L.length 0) i = true)
    (hg : ∀ x ∈ L, ∀ g b, x.guard = some (g, b) → g < L.length) (hoe : ∀ e ∈ o.after.toList, bnd e = true → e.on < L.length) :
    ∀ (fuel : Nat) (listed : Array Bool) (a : Act) (w : World), listed.size = L.length → Cl L (fun i => listed.getD i false = true) → wpAny P .any L.toArray (Qlast P (L ++ [o]).toArray L.length Q) fuel listed a w →
      wpAny P .any (L ++ [o]).toArray Q (fuel + 1) (listed.push false) a w := by
  have hlast : (L ++ [o]).toArray[L.length]? = some o := by simp
  have fin : ∀ (listed : Array Bool) (fuel : Nat) (a : Act) (w : World), listed.size = L.length → (∀ i, i < L.length → listed.getD i false = true) → wpOp P (L ++ [o]).toArray Q L.length (Q .normal) a w →
      wpOp P (L ++ [o]).toArray Q L.length (wpAny P .any (L ++ [o]).toArray Q fuel ((listed.push false).setIfInBounds L.length true)) a w := by
    intro listed fuel a w hsz hall h
    refine wpOp_mono (fun a w hq => ?_) h
    have hnil : Region.ready .any (L ++ [o]).toArray ((listed.push false).setIfInBounds L.length true) = [] := by
      apply List.eq_nil_iff_forall_not_mem.2
      intro j hj
      rw [mem_ready] at hj
      obtain ⟨h0, x, hx, -⟩ := hj
      have hjl : j < L.length + 1 := by
        have := (Array.getElem?_eq_some_iff.1 hx).1
        simpa using this
      by_cases hj : j = L.length
      · subst hj
        simp [hsz] at h0
      · have := hall j (by omega)
        rw [← push_getD] at this
        simp only [Array.getD_eq_getD_getElem?, Array.getElem?_setIfInBounds] at h0 this
        rw [if_neg (fun h => hj h.symm)] at h0
        have hs : j < (listed.push false).size := by simp [hsz]; omega
        rw [Array.getElem?_eq_getElem hs] at this h0
        simp only [Option.getD_some] at this h0
        rw [this] at h0; cases h0
    cases fuel with
    | zero => exact ⟨hnil, hq⟩
    | succ n => exact ⟨fun _ => hq, fun i hi => by rw [hnil] at hi; cases hi⟩
  have rdyLast : ∀ (listed : Array Bool), listed.size = L.length → (∀ i, i < L.length → listed.getD i false = true) → L.length ∈ Region.ready .any (L ++ [o]).toArray (listed.push false) := by
    intro listed hsz hall
    rw [mem_ready]
    refine ⟨by simp [← hsz], o, hlast, fun e he hb => ?_⟩
    rw [binds_eq] at hb
    rw [push_getD]
    exact hall _ (hoe e (by simpa using he) hb)
  have lastAll : ∀ (listed : Array Bool), listed.size = L.length → Cl L (fun i => listed.getD i false = true) → L.length ∈ Region.ready .any (L ++ [o]).toArray (listed.push false) → ∀ i, i < L.length → listed.getD i false = true := by
    intro listed hsz hcl hj i hi
    rw [mem_ready] at hj
    obtain ⟨-, x, hx, hd⟩ := hj
    rw [hlast] at hx
    cases hx
    have hcl' : Cl (L ++ [o]) (fun i => listed.getD i false = true) := by
      intro j x hx hl e he hb
      have hjl := listed_lt hl
      rw [hsz] at hjl
      rw [List.getElem?_append_left hjl] at hx
      exact hcl j x hx hl e he hb
    exact mask_closed hcl' (fun j hl => by have := listed_lt hl; simp; omega) L.length o (by simp) (fun e he hb => by
      have := hd e (by simpa using he) (by rw [binds_eq]; exact hb)
      rwa [push_getD] at this) i (hmask i hi)
  have down : ∀ (listed : Array Bool) (i : Nat), listed.size = L.length → i ∈ Region.ready .any (L ++ [o]).toArray (listed.push false) → i = L.length ∨ i < L.length ∧ i ∈ Region.ready .any L.toArray listed := by
    intro listed i hsz hi
    rw [mem_ready] at hi
    obtain ⟨h0, x, hx, hd⟩ := hi
    have hil : i < L.length + 1 := by
      have := (Array.getElem?_eq_some_iff.1 hx).1
      simpa using this
    by_cases he : i = L.length
    · exact .inl he
    · refine .inr ⟨by omega, ?_⟩
      rw [mem_ready]
      refine ⟨?_, x, ?_, fun e he hb => ?_⟩
      · have hs : i < listed.size := by omega
        simp only [Array.getD_eq_getD_getElem?, Array.getElem?_push, hsz, he, if_false] at h0
        simpa using h0
      · have : i < L.length := by omega
        simpa [List.getElem?_append_left this] using hx
      · have := hd e he hb
        rwa [push_getD] at this
  intro fuel
  induction fuel with
  | zero =>
    intro listed a w hsz hcl h
    obtain ⟨h0, h1⟩ := h
    have hall := all_listed hG hsz h0
    refine ⟨fun hn => ?_, fun i hi => ?_⟩
    · have := rdyLast listed hsz hall
      rw [hn] at this; cases this
    · rcases down listed i hsz hi with rfl | ⟨-, hi⟩
      · exact fin listed 0 a w hsz hall h1
      · rw [h0] at hi; cases hi
  | succ fuel ih =>
    intro listed a w hsz hcl h
    obtain ⟨h0, h1⟩ := h
    refine ⟨fun hn => ?_, fun i hi => ?_⟩
    · cases hr : Region.ready .any L.toArray listed with
      | nil =>
        have := rdyLast listed hsz (all_listed hG hsz hr)
        rw [hn] at this; cases this
      | cons j r =>
        have hj : j ∈ Region.ready .any L.toArray listed := by rw [hr]; simp
        have : j ∈ Region.ready .any (L ++ [o]).toArray (listed.push false) := by
          rw [mem_ready] at hj ⊢
          obtain ⟨g0, x, hx, hd⟩ := hj
          have hjl : j < L.length := by
            have := (Array.getElem?_eq_some_iff.1 hx).1
            simpa using this
          refine ⟨?_, x, by simpa [List.getElem?_append_left hjl] using hx, fun e he hb => by rw [push_getD]; exact hd e he hb⟩
          have hne : j ≠ L.length := by omega
          have hs : j < listed.size := by omega
          simp only [Array.getD_eq_getD_getElem?, Array.getElem?_push, hsz, hne, if_false]
          simpa using g0
        rw [hn] at this; cases this
    · rcases down listed i hsz hi with rfl | ⟨hlt, hi'⟩
      · have hall := lastAll listed hsz hcl hi
        have hnil : Region.ready .any L.toArray listed = [] := by
          apply List.eq_nil_iff_forall_not_mem.2
          intro j hj
          rw [mem_ready] at hj
          obtain ⟨g0, x, hx, -⟩ := hj
          have hjl : j < L.length := by
            have := (Array.getElem?_eq_some_iff.1 hx).1
            simpa using this
          have := hall j hjl
          have hs : j < listed.size := by omega
          simp [hs] at g0 this
          rw [this] at g0; cases g0
        exact fin listed (fuel + 1) a w hsz hall (h0 hnil)
      · refine wpOp_last hlt hg (wpOp_mono (fun a w hq => ?_) (h1 i hi'))
        rw [push_set (by omega)]
        refine ih _ a w (by simpa using hsz) ?_ hq
        rw [mem_ready] at hi'
        obtain ⟨-, x, hx, hd⟩ := hi'
        intro j y hy hl e he hb
        have up : ∀ k, listed.getD k false = true → (listed.setIfInBounds i true).getD k false = true := by
          intro k hk
          have hkl := listed_lt hk
          simp only [Array.getD_eq_getD_getElem?, Array.getElem?_setIfInBounds] at hk ⊢
          split
          · rename_i he; subst he; simp [hkl]
          · exact hk
        by_cases hij : i = j
        · subst hij
          have : y = x := by
            have hx' : L[i]? = some x := by simpa using hx
            rw [hy] at hx'; cases hx'; rfl
          subst this
          exact up _ (hd e (by simpa using he) (by rw [binds_eq]; exact hb))
        · refine up _ (hcl j y hy ?_ e he hb)
          simp only [Array.getD_eq_getD_getElem?, Array.getElem?_setIfInBounds, if_neg hij] at hl ⊢
          exact hl
end
end Go.Eng
/- Panics, and functions that defer a call which recovers. -/
namespace Go.Eng
section
variable [SymV] {P : Program} {X : ExtT} {call pcall : CallT}

/-- operations one after the other, the last of which panics -/
noncomputable def pSeq [SymD] (P : Program) (X : ExtT) (call pcall : CallT) (ops : List Oper) : List Oper → LF → LMem → Option (Value × LF × LMem)
  | [], _, _ => none
  | o :: r, f, m =>
    match lwanted ops o f with
    | none => none
    | some wt => bif wt then
      match doOp P X call f o m with
      | some (v, m') => match f.put o.dst v with
        | some f' => pSeq P X call pcall ops r f' m'
        | none => none
      | none => match o.op with
        | .panic x => match f.lev x with
          | .iface t v => some (.iface t v, f, m)
          | _ => none
        | _ => match eop P X f.lev o m with
          | some (.enter g args, m') => match pcall g args m' with
            | some (v, m'') => some (v, f, m'')
            | none => none
          | _ => none
      else match f.put o.dst undef with
      | some f' => pSeq P X call pcall ops r f' m
      | none => none

/-- a region that draws its order, of which the last operation waits for all others, and panics -/
noncomputable def pDraw [SymD] (P : Program) (X : ExtT) (call pcall : CallT) (l : List Oper) (f : LF) (m : LMem) : Option (Value × LF × LMem) :=
  match l.reverse with
  | [] => none
  | o :: r =>
    let L := r.reverse
    bif regOK L && l.all okOp && (List.range L.length).all (fun i => tb ((masks l []).getD L.length 0) i) && L.all (fun x => match x.guard with | some (g, _) => Nat.blt g L.length | none => true) && o.after.toList.all (fun e => !bnd e || Nat.blt e.on L.length) then
      match runDraw P X call L (masks L []) (regOrd L (masks L [])) f m m [] with
      | some (f1, m1) => pSeq P X call pcall l [o] f1 m1
      | none => none
    else none

noncomputable def pexec [SymD] (P : Program) (X : ExtT) (call pcall : CallT) : Nat → Code → LF → LMem → Option (Value × LF × LMem)
  | 0, _, _, _ => none
  | n + 1, c, f, m =>
    match c with
    | .region _ ops draw => bif draw then pDraw P X call pcall ops.toList f m else bif ops.toList.all okOp then pSeq P X call pcall ops.toList ops.toList f m else none
    | .seq a b => match exec P X call n a f m with
      | some (.norm, f', m') => pexec P X call pcall n b f' m'
      | some _ => none
      | none => pexec P X call pcall n a f m
    | .cond x a b => match x with
      | .tmp t => match f.get t with
        | .bool true => pexec P X call pcall n a f m
        | .bool false => pexec P X call pcall n b f m
        | _ => none
      | _ => none
    | .block _ a => pexec P X call pcall n a f m
    | _ => none

noncomputable def pcallF [SymD] (P : Program) (X : ExtT) (prim : FuncId → Option (List Value → LMem → Option (Value × LMem))) (fuel : Nat) : Nat → CallT
  | 0, _, _, _ => none
  | n + 1, g, args, m =>
    match P.funcs[g]? with
    | none => none
    | some fn => match fn.body with
      | none => none
      | some c =>
        bif Nat.ble args.length fn.ntmps && Nat.ble fn.ntmps 512 then
          match pexec P X (callF P X prim fuel n) (pcallF P X prim fuel n) fuel c { tr := putArgs args 0 (FT.lf none), nt := fn.ntmps } m with
          | some (v, _, m') => some (v, m')
          | none => none
        else none

def PanPost (m m' : LMem) (v : Value) (φ : Phi) (w : World) (e : Ending) (w' : World) : Prop :=
  ∃ v' φ', e = .panicked [{ v := v', recovered := false }] ∧ Sim m.next φ φ' w w' ∧ VR φ' v v' ∧ MR φ' m'.get w' ∧ Bd φ' m'.next

def PCallSound (P : Program) (pcall : CallT) : Prop :=
  ∀ g args m v m', pcall g args m = some (v, m') → WF m → (m.next ≤ m'.next ∧ WF m') ∧
    ∀ φ w args', MR φ m.get w → Bd φ m.next → VRL φ args args' → Calls P g ⟨args'⟩ w (PanPost m m' v φ w)

def PEnds (m m' : LMem) (v : Value) (f' : LF) (φ : Phi) (a : Act) (w : World) (Q : Exit → Act → World → Prop) : Prop :=
  ∀ φ' w' a' v', Sim m.next φ φ' w w' → FR φ' f' a' → MR φ' m'.get w' → Bd φ' m'.next → a'.defers = a.defers → VR φ' v v' → Q (.panic [{ v := v', recovered := false }]) a' w'

theorem PEnds.step {m m1 m' : LMem} {v : Value} {f' : LF} {φ φ1 : Phi} {a a1 : Act} {w w1 : World} {Q : Exit → Act → World → Prop} (hle : m.next ≤ m1.next) (hs : Sim m.next φ φ1 w w1) (hd : a1.defers = a.defers) (hE : PEnds m m' v f' φ a w Q) : PEnds m1 m' v f' φ1 a1 w1 Q := by
  have _s := SymV.val
  have _s := SymV.val
  exact
  fun φ2 w2 a2 v2 hs2 hf2 hm2 hb2 hd2 hv2 => hE φ2 w2 a2 v2 (hs.trans hle hs2) hf2 hm2 hb2 (hd2.trans hd) hv2

theorem pSeq_sim (hP : POK P X) (hc : CallSound P call) (hpc : PCallSound P pcall) (ops : Array Oper) {Q : Exit → Act → World → Prop} (hok : ops.toList.all okOp = true) :
    ∀ (r : List Oper) (k : Nat) (f f' : LF) (m m' : LMem) (v : Value), ops.toList.drop k = r → pSeq P X call pcall ops.toList r f m = some (v, f', m') → WF m → LFok f →
      (m.next ≤ m'.next ∧ WF m' ∧ LFok f') ∧ ∀ φ w a, MR φ m.get w → Bd φ m.next → FR φ f a → PEnds m m' v f' φ a w Q → wpOps P ops Q (List.range' k r.length) a w := by
  intro r
  induction r with
  | nil => intro k f f' m m' v _ h; simp [pSeq] at h
  | cons o r ih =>
    intro k f f' m m' v hdrop h hw hlf
    have hk : ops[k]? = some o := by
      have : ops.toList[k]? = some o := by
        have := congrArg List.head? hdrop
        rw [List.head?_drop] at this
        simpa using this
      simpa using this
    have hdrop' : ops.toList.drop (k + 1) = r := by
      rw [← List.drop_drop] at *
      rw [hdrop]; rfl
    have hoko : okOp o = true := List.all_eq_true.1 hok o (List.mem_of_getElem? (l := ops.toList) (i := k) (by simpa using hk))
    unfold pSeq at h
    have hwant : ∀ b, lwanted ops.toList o f = some b → ∀ φ a, FR φ f a → Region.wanted o (yielded ops a.tmps) = b := fun b hb φ a hf => wanted_sim (fun j w d _ _ => hf.val d) hf.size hb
    have hput : ∀ {d : Option Nat} {u : Value} {f1 : LF}, f.put d u = some f1 → LFok f1 := by
      intro d u f1 hp
      unfold LF.put at hp
      split at hp
      · cases hp; exact hlf
      · split at hp
        rename_i tr nt
        cases hb : Nat.blt _ nt with
        | false => rw [hb] at hp; cases hp
        | true => rw [hb] at hp; cases hp; exact ⟨hlf.1⟩
    cases hwt : lwanted ops.toList o f with
    | none => rw [hwt] at h; cases h
    | some wt =>
    cases wt with
    | true =>
      simp only [hwt, cond_true] at h
      split at h
      · rename_i u m1 hop
        split at h
        case h_2 => cases h
        rename_i f1 hp1
        obtain ⟨g1, g2⟩ := doOp_sim hP hc hw hop
        obtain ⟨i1, i2⟩ := ih (k + 1) f1 f' m1 m' v hdrop' h g1.2 (hput hp1)
        refine ⟨⟨Nat.le_trans g1.1 i1.1, i1.2⟩, fun φ w a hm hb hf hE => ?_⟩
        rw [List.length_cons, List.range'_succ]
        simp only [wpOps, hk, hwant _ hwt φ a hf, if_true]
        left
        refine g2 φ w a hm hb (ops_ok hf hoko) _ _ fun φ1 w1 v1 hs hv hm1 hb1 => ?_
        exact i2 φ1 w1 _ hm1 hb1 ((hf.mono hs.ext).put hp1 hv) (hE.step g1.1 hs (put_defers _ _ _))
      · split at h
        · rename_i x hx
          split at h
          case h_2 => cases h
          rename_i t u hl
          simp only [Option.some.injEq, Prod.mk.injEq] at h
          obtain ⟨rfl, rfl, rfl⟩ := h
          refine ⟨⟨Nat.le_refl _, hw, hlf⟩, fun φ w a hm hb hf hE => ?_⟩
          rw [List.length_cons, List.range'_succ]
          simp only [wpOps, hk, hwant _ hwt φ a hf, if_true]
          left
          have hv := ops_ok hf hoko x (by simp [hx, Op.operands])
          rw [hl] at hv
          generalize hq : a.eval x = q at hv
          cases hv with
          | iface _ _ y hy =>
            have hr : (execOp a.eval o).run P w = .halt (.panic (.iface t y)) w := by
              simp [execOp, hx, hq, Instr.panic, goPanic]
            unfold Oper.wp
            rw [hr]
            exact hE φ w a _ (Sim.refl _ φ w) hf hm hb rfl (.iface t u y hy)
        · rename_i hnp
          split at h
          · rename_i g args m1 he
            split at h
            case h_2 => cases h
            rename_i u m2 hpc'
            simp only [Option.some.injEq, Prod.mk.injEq] at h
            obtain ⟨rfl, rfl, rfl⟩ := h
            obtain ⟨g1, g2⟩ := esim hP hw he
            obtain ⟨q1, q2⟩ := hpc g args m1 u m2 hpc' g1.2
            refine ⟨⟨Nat.le_trans g1.1 q1.1, q1.2, hlf⟩, fun φ w a hm hb hf hE => ?_⟩
            rw [List.length_cons, List.range'_succ]
            simp only [wpOps, hk, hwant _ hwt φ a hf, if_true]
            left
            obtain ⟨rfl, args', hr, hv⟩ := g2 φ w a.eval hm hb (ops_ok hf hoko)
            unfold Oper.wp
            rw [hr]
            have := q2 φ w args'.toList hm hb hv
            refine Calls.mono this ?_
            rintro e w' ⟨v', φ', rfl, h1, h2, h3, h4⟩
            exact hE φ' w' a v' h1 (hf.mono h1.ext) h3 h4 rfl h2
          · cases h
    | false =>
      simp only [hwt, cond_false] at h
      split at h
      case h_2 => cases h
      rename_i f1 hp1
      obtain ⟨i1, i2⟩ := ih (k + 1) f1 f' m m' v hdrop' h hw (hput hp1)
      refine ⟨i1, fun φ w a hm hb hf hE => ?_⟩
      rw [List.length_cons, List.range'_succ]
      simp only [wpOps, hk, hwant _ hwt φ a hf, Bool.false_eq_true, if_false]
      exact i2 φ w _ hm hb (hf.put hp1 VR.undef) (hE.step (Nat.le_refl _) (Sim.refl _ φ w) (put_defers _ _ _))

theorem pDraw_sim (hP : POK P X) (hc : CallSound P call) (hpc : PCallSound P pcall) {id : Nat} {ops : Array Oper} {f f' : LF} {m m' : LMem} {v : Value} (h : pDraw P X call pcall ops.toList f m = some (v, f', m')) (hlf : LFok f) (hw : WF m) :
    (m.next ≤ m'.next ∧ WF m' ∧ LFok f') ∧ ∀ φ w a, MR φ m.get w → Bd φ m.next → FR φ f a → ∀ Q : Exit → Act → World → Prop, PEnds m m' v f' φ a w Q → (Code.region id ops true).wp P Q a w := by
  unfold pDraw at h
  split at h
  · cases h
  rename_i o r hrev
  have hl : ops.toList = r.reverse ++ [o] := by
    have := congrArg List.reverse hrev
    simpa using this
  have hops : ops = (r.reverse ++ [o]).toArray := Array.ext' hl
  rw [hl] at h
  generalize r.reverse = L at *
  simp only at h
  cases hq : (regOK L && (L ++ [o]).all okOp && (List.range L.length).all (fun i => tb ((masks (L ++ [o]) []).getD L.length 0) i) && L.all (fun x => match x.guard with | some (g, _) => Nat.blt g L.length | none => true) && o.after.toList.all (fun e => !bnd e || Nat.blt e.on L.length)) with
  | false => simp only [hq, cond_false] at h; cases h
  | true =>
    simp only [hq, cond_true] at h
    simp only [Bool.and_eq_true] at hq
    obtain ⟨⟨⟨⟨k1, k2⟩, k3⟩, k4⟩, k5⟩ := hq
    have hG := regOK_spec k1
    split at h
    case h_2 => cases h
    rename_i f1 m1 hrun
    obtain ⟨d1, d2⟩ := draw_any (ops := L.toArray) hP hc k1 hlf hrun hw
    have hs := fun Q => pSeq_sim (Q := Q) hP hc hpc (L ++ [o]).toArray k2 [o] L.length f1 f' m1 m' v (by simp) h d1.2.1 d1.2.2
    refine ⟨⟨Nat.le_trans d1.1 (hs fun _ _ _ => True).1.1, (hs fun _ _ _ => True).1.2⟩, fun φ w a hm hb hf Q hE => ?_⟩
    rw [hops]
    refine wp_region_any hP.mixed ?_
    have key := wpAny_last (P := P) (Q := Q) (o := o) hG (fun i hi => List.all_eq_true.1 k3 i (List.mem_range.2 hi)) (fun x hx g b hg => by
        have := List.all_eq_true.1 k4 x hx
        rw [hg] at this
        exact blt_lt this) (fun e he hb => by
        have := List.all_eq_true.1 k5 e he
        rw [hb] at this
        exact blt_lt (by simpa using this)) L.length (Array.replicate L.length false) a { w with drawn := w.drawn + 1 } (by simp) (fun j x _ hj => by
          have hl := listed_lt hj
          simp only [Array.size_replicate] at hl
          simp [hl] at hj) (d2 φ w a hm hb hf fun φ1 w1 a1 hs1 hf1 hm1 hb1 hd1 => by
            have := (hs Q).2 φ1 w1 a1 hm1 hb1 hf1 (hE.step d1.1 hs1 hd1)
            rw [show List.range' L.length [o].length = [L.length] from rfl, wpOps_cons] at this
            exact this)
    rw [← Array.replicate_succ] at key
    simpa using key

theorem pexec_sim (hP : POK P X) (hc : CallSound P call) (hpc : PCallSound P pcall) : ∀ (n : Nat) (c : Code) (f f' : LF) (m m' : LMem) (v : Value), pexec P X call pcall n c f m = some (v, f', m') → LFok f → WF m →
    (m.next ≤ m'.next ∧ WF m' ∧ LFok f') ∧ ∀ φ w a, MR φ m.get w → Bd φ m.next → FR φ f a → ∀ Q : Exit → Act → World → Prop, PEnds m m' v f' φ a w Q → c.wp P Q a w := by
  intro n
  induction n with
  | zero => intro c f f' m m' v h; simp [pexec] at h
  | succ n ih =>
    intro c f f' m m' v h hlf hw
    cases c with
    | region id ops draw =>
      simp only [pexec] at h
      cases draw with
      | true => simp only [cond_true] at h; exact pDraw_sim hP hc hpc h hlf hw
      | false =>
        simp only [cond_false] at h
        cases hok : ops.toList.all okOp with
        | false => simp only [hok, cond_false] at h; cases h
        | true =>
          simp only [hok, cond_true] at h
          have hs := fun Q => pSeq_sim (Q := Q) hP hc hpc ops hok ops.toList 0 f f' m m' v (by simp) h hw hlf
          refine ⟨(hs fun _ _ _ => True).1, fun φ w a hm hb hf Q hE => wp_region ?_⟩
          have := (hs Q).2 φ w a hm hb hf hE
          rw [← List.range_eq_range'] at this
          simpa using this
    | seq c1 c2 =>
      simp only [pexec] at h
      split at h
      · rename_i f1 m1 h1
        obtain ⟨g1, g2⟩ := (exec_sim hP hc n).1 c1 f f1 m m1 .norm h1 hlf hw
        obtain ⟨q1, q2⟩ := ih c2 f1 f' m1 m' v h g1.2.2 g1.2.1
        refine ⟨⟨Nat.le_trans g1.1 q1.1, q1.2⟩, fun φ w a hm hb hf Q hE => wp_seq ?_⟩
        exact g2 φ w a hm hb hf _ fun φ1 w1 a1 hs1 hf1 hm1 hb1 hd1 => q2 φ1 w1 a1 hm1 hb1 hf1 Q (hE.step g1.1 hs1 hd1)
      · cases h
      · obtain ⟨g1, g2⟩ := ih c1 f f' m m' v h hlf hw
        refine ⟨g1, fun φ w a hm hb hf Q hE => wp_seq ?_⟩
        exact g2 φ w a hm hb hf _ fun φ1 w1 a1 v1 hs1 hf1 hm1 hb1 hd1 hv1 => hE φ1 w1 a1 v1 hs1 hf1 hm1 hb1 hd1 hv1
    | cond o c1 c2 =>
      simp only [pexec] at h
      split at h
      · rename_i t
        have key : ∀ (b : Bool) (c : Code), (if b then c1 else c2) = c → f.get t = .bool b → pexec P X call pcall n c f m = some (v, f', m') → (m.next ≤ m'.next ∧ WF m' ∧ LFok f') ∧
            ∀ φ w a, MR φ m.get w → Bd φ m.next → FR φ f a → ∀ Q : Exit → Act → World → Prop, PEnds m m' v f' φ a w Q → (Code.cond (.tmp t) c1 c2).wp P Q a w := by
          intro b c hb' hl hr
          obtain ⟨g1, g2⟩ := ih c f f' m m' v hr hlf hw
          refine ⟨g1, fun φ w a hm hb hf Q hE => wp_cond (t := b) ?_ (by rw [hb']; exact g2 φ w a hm hb hf Q hE)⟩
          have := hf.eval (x := .tmp t) rfl
          have hl' : f.lev (.tmp t) = .bool b := hl
          rw [hl'] at this
          generalize a.eval (.tmp t) = y at this
          cases this; rfl
        split at h
        · rename_i hl; exact key true c1 rfl hl h
        · rename_i hl; exact key false c2 rfl hl h
        · cases h
      · cases h
    | block id c =>
      simp only [pexec] at h
      obtain ⟨g1, g2⟩ := ih c f f' m m' v h hlf hw
      refine ⟨g1, fun φ w a hm hb hf Q hE => wp_block (g2 φ w a hm hb hf _ fun φ1 w1 a1 v1 hs1 hf1 hm1 hb1 hd1 hv1 => ?_)⟩
      exact hE φ1 w1 a1 v1 hs1 hf1 hm1 hb1 hd1 hv1
    | _ => simp [pexec] at h

theorem pcall_sound (hP : POK P X) {prim : FuncId → Option (List Value → LMem → Option (Value × LMem))} (hp : PrimOK P prim) (fuel : Nat) : ∀ n, PCallSound P (pcallF P X prim fuel n) := by
  intro n
  induction n with
  | zero => intro g args m v m' h; simp [pcallF] at h
  | succ n ih =>
    intro g args m v m' h hw
    simp only [pcallF] at h
    split at h
    · cases h
    · rename_i fn hfn
      split at h
      · cases h
      · rename_i c hbody
        cases hq : (Nat.ble args.length fn.ntmps && Nat.ble fn.ntmps 512) with
        | false => simp only [hq, cond_false] at h; cases h
        | true =>
          simp only [hq, cond_true] at h
          rw [Bool.and_eq_true] at hq
          have hq1 := Nat.le_of_ble_eq_true hq.1
          have hq2 := Nat.le_of_ble_eq_true hq.2
          split at h
          · rename_i u f' m1 hrun
            simp only [Option.some.injEq, Prod.mk.injEq] at h
            obtain ⟨rfl, rfl⟩ := h
            obtain ⟨g1, g2⟩ := pexec_sim hP (call_sound hP hp fuel n) ih fuel c _ f' m m1 u hrun ⟨hq2⟩ hw
            refine ⟨⟨g1.1, g1.2.1⟩, fun φ w args' hm hb hargs => calls_of_wp hfn hbody ?_⟩
            refine g2 φ w _ hm hb (start_frame hargs hq1 hq2) _ fun φ1 w1 a1 v1 hs1 hf1 hm1 hb1 hd1 hv1 => ?_
            exact ⟨hd1, v1, φ1, rfl, hs1, hv1, hm1, hb1⟩
          · cases h

/-- a function that defers a call, behind its first statement: what comes ahead in its region, the operation, the function and the arguments -/
def dshape (c : Code) : Option (Code × List Oper × Oper × Operand × List Operand × Code) :=
  match c with
  | .seq a (.seq (.region _ ops false) b) => match ops.toList.reverse with
    | [] => none
    | o :: r => match o with
      | ⟨none, .defer ⟨.value v, args, _⟩, _, _, _, none⟩ => some (a, r.reverse, o, v, args.toList, b)
      | _ => none
  | _ => none

theorem dshape_is {c a b : Code} {pre : List Oper} {o : Oper} {v : Operand} {args : List Operand} (h : dshape c = some (a, pre, o, v, args, b)) :
    ∃ id tys ty pos after, c = .seq a (.seq (.region id (pre ++ [o]).toArray false) b) ∧ o = ⟨none, .defer ⟨.value v, args.toArray, tys⟩, ty, pos, after, none⟩ := by
  have _s := SymV.val
  unfold dshape at h
  split at h
  · rename_i a0 id ops b0
    split at h
    · cases h
    · rename_i o0 r hrev
      split at h
      · rename_i v0 args0 tys ty pos after
        simp only [Option.some.injEq, Prod.mk.injEq] at h
        obtain ⟨rfl, rfl, rfl, rfl, rfl, rfl⟩ := h
        have hl := congrArg List.reverse hrev
        simp only [List.reverse_reverse, List.reverse_cons] at hl
        exact ⟨id, tys, ty, pos, after, by rw [← hl], rfl⟩
      · cases h
  · cases h

theorem wpOps_last {L : List Oper} {o : Oper} {Q : Exit → Act → World → Prop} (hg : ∀ x ∈ L, ∀ g b, x.guard = some (g, b) → g < L.length) : ∀ (r : List Nat) (a : Act) (w : World), (∀ i ∈ r, i < L.length) → wpOps P L.toArray (Qlast P (L ++ [o]).toArray L.length Q) r a w → wpOps P (L ++ [o]).toArray Q (r ++ [L.length]) a w := by
  have _s := SymV.val
  intro r
  induction r with
  | nil => intro a w _ h; rw [List.nil_append, wpOps_cons]; exact h
  | cons i r ih =>
    intro a w hi h
    rw [List.cons_append, wpOps_cons]
    rw [wpOps_cons] at h
    exact wpOp_last (hi i (by simp)) hg (wpOp_mono (fun a w hq => ih a w (fun k hk => hi k (by simp [hk])) hq) h)

theorem vrl_map {α : Type} {φ : Phi} {f g : α → Value} : ∀ {xs : List α}, (∀ x ∈ xs, VR φ (f x) (g x)) → VRL φ (xs.map f) (xs.map g)
  | [], _ => .nil
  | x :: _, h => .cons _ _ _ _ (h x (by simp)) (vrl_map fun y hy => h y (by simp [hy]))

/-- a function that asks 'recover' first -/
def rshape (c : Code) : Option (Nat × Code) :=
  match c with
  | .seq (.region _ ops false) b => match ops.toList with
    | [⟨some d, .call ⟨.builtin .recover, args, _⟩, _, _, _, none⟩] => match args.toList with
      | [] => some (d, b)
      | _ => none
    | _ => none
  | _ => none

theorem rshape_is {c b : Code} {d : Nat} (h : rshape c = some (d, b)) :
    ∃ id tys ty pos after, c = .seq (.region id #[⟨some d, .call ⟨.builtin .recover, #[], tys⟩, ty, pos, after, none⟩] false) b := by
  have _s := SymV.val
  unfold rshape at h
  split at h
  · rename_i id ops b0
    split at h
    · rename_i d0 args tys ty pos after ho
      split at h
      · rename_i ha
        simp only [Option.some.injEq, Prod.mk.injEq] at h
        obtain ⟨rfl, rfl⟩ := h
        have hops : ops = #[⟨some d0, .call ⟨.builtin .recover, args, tys⟩, ty, pos, after, none⟩] := Array.ext' ho
        have hargs : args = #[] := Array.ext' ha
        subst hargs
        exact ⟨id, tys, ty, pos, after, by rw [hops]⟩
      · cases h
    · cases h
  · cases h

/-- the deferred call: 'r' is what its 'recover' gives -/
noncomputable def dtail [SymD] (P : Program) (X : ExtT) (call : CallT) (fuel : Nat) (gd : FuncId) (args : List Value) (r : Value) (m : LMem) : Option LMem :=
  match P.funcs[gd]? with
  | none => none
  | some fd => match fd.body with
    | none => none
    | some cd => match rshape cd with
      | none => none
      | some (d, D) =>
        bif Nat.ble args.length fd.ntmps && Nat.ble fd.ntmps 512 then
          match LF.put { tr := putArgs args 0 (FT.lf none), nt := fd.ntmps } (some d) r with
          | none => none
          | some f0 => match exec P X call fuel D f0 m with
            | some (.norm, f1, m1) => (lresults P f1 m1 fd.results.toList).map fun _ => m1
            | some (.ret, f1, m1) => (lresults P f1 m1 fd.results.toList).map fun _ => m1
            | _ => none
        else none

noncomputable def dend [SymD] (P : Program) (X : ExtT) (call : CallT) (fuel : Nat) (gd : FuncId) (args : List Value) (r : Value) (rs : List ResultVar) (f : LF) (m : LMem) : Option (Value × LMem) :=
  match dtail P X call fuel gd args r m with
  | none => none
  | some m' => (lresults P f m' rs).map fun vs => (ltuple vs, m')

noncomputable def dcall [SymD] (P : Program) (X : ExtT) (call pcall : CallT) (fuel : Nat) (g : FuncId) (args : List Value) (m : LMem) : Option (Value × LMem) :=
  match P.funcs[g]? with
  | none => none
  | some fn => match fn.body with
    | none => none
    | some c => match dshape c with
      | none => none
      | some (A, pre, o, v, xs, B) =>
        bif Nat.ble args.length fn.ntmps && Nat.ble fn.ntmps 512 && pre.all okOp && okOperand v && xs.all okOperand && pre.all (fun x => match x.guard with | some (g, _) => Nat.blt g pre.length | none => true) then
          match exec P X call fuel A { tr := putArgs args 0 (FT.lf none), nt := fn.ntmps } m with
          | some (.norm, f0, m0) => match runSeq P X call pre pre f0 m0 with
            | some (f1, m1) => match f1.lev v with
              | .func (.func gd) first cap =>
                let ds := first.toList ++ xs.map f1.lev ++ cap.toList
                match exec P X call fuel B f1 m1 with
                | some (.norm, f2, m2) => dend P X call fuel gd ds .nilIface fn.results.toList f2 m2
                | some (.ret, f2, m2) => dend P X call fuel gd ds .nilIface fn.results.toList f2 m2
                | some _ => none
                | none => match pexec P X call pcall fuel B f1 m1 with
                  | some (v, f2, m2) => dend P X call fuel gd ds v fn.results.toList f2 m2
                  | none => none
              | _ => none
            | none => none
          | _ => none
        else none

theorem results_run {fn : Func} {f : LF} {m : LMem} {w : World} {a : Act} {φ : Phi} {vs : List Value} (hm : MR φ m.get w) (hf : FR φ f a) (h : lresults P f m fn.results.toList = some vs) :
    ∃ v', (results fn a.tmps).run P w = .ok v' w ∧ VR φ (ltuple vs) v' := by
  obtain ⟨vs', k1, k2⟩ := results_sim (P := P) (G := fun
    | .tmp t => pure (a.tmps.getD t undef)
    | .cell x t => do loadVar t (← asAddr (a.tmps.getD x undef))) (fun _ => rfl) (fun _ _ => rfl) hm hf fn.results.toList vs h
  refine ⟨_, ?_, tuple_sim k2⟩
  unfold results
  rw [Sem.run_bind, Array.mapM_eq_mapM_toList, Sem.run_map]
  refine Eq.trans (congrArg (fun r => Result.andThen (Result.andThen r _) _) (Eq.trans ?_ k1)) rfl
  rfl

/-- what 'recover' gives in a mode, and the mode behind it -/
def RecMode (u : FrameMode) (r : Value) (u' : FrameMode) : Prop :=
  (u = .returning ∧ r = .nilIface ∧ u' = .returning) ∨ (u = .panicking [{ v := r, recovered := false }] ∧ u' = .panicking [{ v := r, recovered := true }])

theorem RecMode.settles {u u' : FrameMode} {r : Value} (h : RecMode u r u') : settle u' = .returning ∧ u ≠ .run := by
  have _s := SymV.val
  rcases h with ⟨rfl, rfl, rfl⟩ | ⟨rfl, rfl⟩
  · exact ⟨rfl, by simp⟩
  · exact ⟨rfl, by simp⟩

theorem dtail_sim (hP : POK P X) (hc : CallSound P call) {fuel : Nat} {gd : FuncId} {args : List Value} {r : Value} {m m' : LMem} (h : dtail P X call fuel gd args r m = some m') (hw : WF m) :
    (m.next ≤ m'.next ∧ WF m') ∧ (∃ fd c, P.funcs[gd]? = some fd ∧ fd.body = some c) ∧ ∀ φ w args' r' u u' (R : Ending → FrameMode → World → Prop), MR φ m.get w → Bd φ m.next → VRL φ args args' → VR φ r r' → RecMode u r' u' →
      (∀ v φ' w', Sim m.next φ φ' w w' → MR φ' m'.get w' → Bd φ' m'.next → R (.returned v) u' w') → CallsD P gd ⟨args'⟩ u w R := by
  unfold dtail at h
  split at h
  · cases h
  rename_i fd hfd
  split at h
  · cases h
  rename_i cd hcd
  split at h
  · cases h
  rename_i d D hsh
  cases hq : (Nat.ble args.length fd.ntmps && Nat.ble fd.ntmps 512) with
  | false => simp only [hq, cond_false] at h; cases h
  | true =>
    simp only [hq, cond_true] at h
    rw [Bool.and_eq_true] at hq
    have hq1 := Nat.le_of_ble_eq_true hq.1
    have hq2 := Nat.le_of_ble_eq_true hq.2
    split at h
    · cases h
    rename_i f0 hput
    obtain ⟨id, tys, ty, pos, after, hcode⟩ := rshape_is hsh
    have hf0 : LFok f0 := by
      unfold LF.put at hput
      simp only at hput
      cases hb : Nat.blt d fd.ntmps with
      | false => rw [hb] at hput; cases hput
      | true => rw [hb] at hput; cases hput; exact ⟨hq2⟩
    have key : ∀ (x : LX) (f1 : LF) (m1 : LMem), (x = .norm ∨ x = .ret) → exec P X call fuel D f0 m = some (x, f1, m1) → (lresults P f1 m1 fd.results.toList).map (fun _ => m1) = some m' →
        (m.next ≤ m'.next ∧ WF m') ∧ (∃ fd c, P.funcs[gd]? = some fd ∧ fd.body = some c) ∧ ∀ φ w args' r' u u' (R : Ending → FrameMode → World → Prop), MR φ m.get w → Bd φ m.next → VRL φ args args' → VR φ r r' → RecMode u r' u' →
          (∀ v φ' w', Sim m.next φ φ' w w' → MR φ' m'.get w' → Bd φ' m'.next → R (.returned v) u' w') → CallsD P gd ⟨args'⟩ u w R := by
      intro x f1 m1 hx hrun hres
      simp only [Option.map_eq_some_iff] at hres
      obtain ⟨vs, hvs, rfl⟩ := hres
      obtain ⟨g1, g2⟩ := (exec_sim hP hc fuel).1 D f0 f1 m m1 x hrun hf0 hw
      refine ⟨⟨g1.1, g1.2.1⟩, ⟨fd, cd, hfd, hcd⟩, fun φ w args' r' u u' R hm hb hv hr hrec hR => callsD_of_wpS hfd hcd fun c₀ cs hmode => ?_⟩
      rw [hcode]
      refine wpS_seq (wpS_region ?_)
      have hfr : FR φ { tr := putArgs args 0 (FT.lf none), nt := fd.ntmps } { tmps := (⟨args'⟩ : Array Value) ++ Array.replicate (fd.ntmps - (⟨args'⟩ : Array Value).size) undef, defers := [] } :=
        start_frame hv hq1 hq2
      have hfr2 := hfr.put hput hr
      have hex : ∀ (a : Act), (execOp a.eval ⟨some d, .call ⟨.builtin .recover, #[], tys⟩, ty, pos, after, none⟩).run P w = .ok .recover w := by
        intro a
        simp [execOp, resolve, invoke, builtin]
      have fin : ∀ (cs' : List Frame), cs' = { c₀ with mode := u' } :: cs → Code.wpS P D (bodyPostS P fd c₀ cs R) (Act.put { tmps := (⟨args'⟩ : Array Value) ++ Array.replicate (fd.ntmps - (⟨args'⟩ : Array Value).size) undef, defers := [] } (some d) r') cs' w := by
        intro cs' hcs
        refine wpS_of_wp (g2 φ w _ hm hb hfr2 _ fun φ3 w3 a3 hs3 hf3 hm3 hb3 hd3 => ?_)
        obtain ⟨v3, hv3, _⟩ := results_run (P := P) hm3 hf3 hvs
        have hpost : a3.defers = [] ∧ ∃ u'', cs' = { c₀ with mode := u'' } :: cs ∧ ∃ v, (results fd a3.tmps).run P w3 = .ok v w3 ∧ R (.returned v) u'' w3 :=
          ⟨hd3, u', hcs, v3, hv3, hR v3 φ3 w3 hs3 hm3 hb3⟩
        rcases hx with rfl | rfl
        · exact hpost
        · exact hpost
      have hwant : ∀ t, Region.wanted ⟨some d, .call ⟨.builtin .recover, #[], tys⟩, ty, pos, after, none⟩ t = true := fun _ => rfl
      show wpOpsS P _ _ [0] _ _ _
      simp only [wpOpsS, List.getElem?_toArray, List.getElem?_cons_zero, hwant, if_true, hex]
      rcases hrec with ⟨rfl, rfl, rfl⟩ | ⟨rfl, rfl⟩
      · have hr0 : recoverD (c₀ :: cs) = none := by simp [recoverD, hmode]
        simp only [hr0]
        exact fin _ (by rw [← hmode])
      · have hr0 : recoverD (c₀ :: cs) = some (r', { c₀ with mode := .panicking [{ v := r', recovered := true }] } :: cs) := by simp [recoverD, hmode]
        simp only [hr0]
        exact fin _ rfl
    split at h
    · rename_i f1 m1 hrun; exact key .norm f1 m1 (.inl rfl) hrun h
    · rename_i f1 m1 hrun; exact key .ret f1 m1 (.inr rfl) hrun h
    · cases h

theorem dcall_sound (hP : POK P X) (hc : CallSound P call) (hpc : PCallSound P pcall) {fuel : Nat} {g : FuncId} {args : List Value} {m m' : LMem} {v : Value} (h : dcall P X call pcall fuel g args m = some (v, m')) (hw : WF m) : SC P g args m v m' := by
  unfold dcall at h
  split at h
  · cases h
  rename_i fn hfn
  split at h
  · cases h
  rename_i c hbody
  split at h
  · cases h
  rename_i A pre o ov xs B hsh
  obtain ⟨id, tys, ty, pos, after, hcode, ho⟩ := dshape_is hsh
  cases hq : (Nat.ble args.length fn.ntmps && Nat.ble fn.ntmps 512 && pre.all okOp && okOperand ov && xs.all okOperand && pre.all (fun x => match x.guard with | some (g, _) => Nat.blt g pre.length | none => true)) with
  | false => simp only [hq, cond_false] at h; cases h
  | true =>
    simp only [hq, cond_true] at h
    simp only [Bool.and_eq_true] at hq
    obtain ⟨⟨⟨⟨⟨hq1, hq2⟩, hq3⟩, hq4⟩, hq5⟩, hq6⟩ := hq
    have hq1 := Nat.le_of_ble_eq_true hq1
    have hq2 := Nat.le_of_ble_eq_true hq2
    have hgd : ∀ x ∈ pre, ∀ g b, x.guard = some (g, b) → g < pre.length := fun x hx g b hg => by
      have := List.all_eq_true.1 hq6 x hx
      rw [hg] at this
      exact blt_lt this
    split at h
    case h_2 => cases h
    rename_i f0 m0 hA
    obtain ⟨a1, a2⟩ := (exec_sim hP hc fuel).1 A _ f0 m m0 .norm hA ⟨hq2⟩ hw
    split at h
    case h_2 => cases h
    rename_i f1 m1 hpre
    have hs := fun Q => seq_sim (Q := Q) hP hc pre.toArray hq3 pre 0 f0 f1 m0 m1 (by simp) hpre a1.2.1
    have hf1ok : LFok f1 := runSeq_ok hpre a1.2.2
    have hm1 := (hs fun _ _ _ => True).1
    split at h
    case h_2 => cases h
    rename_i gd first cap hlev
    -- the function's way to the deferred call, and from there
    have fin : ∀ (r : Value) (f2 : LF) (m2 : LMem), m1.next ≤ m2.next → WF m2 → dend P X call fuel gd (first.toList ++ xs.map f1.lev ++ cap.toList) r fn.results.toList f2 m2 = some (v, m') →
        (∀ φ w a, MR φ m1.get w → Bd φ m1.next → FR φ f1 a → ∀ Q : Exit → Act → World → Prop,
          (∀ φ' w' a' r' u u' e, Sim m1.next φ φ' w w' → FR φ' f2 a' → MR φ' m2.get w' → Bd φ' m2.next → a'.defers = a.defers → VR φ' r r' → RecMode u r' u' →
            (e = .normal ∧ u = .returning ∨ e = .ret ∧ u = .returning ∨ e = .panic [{ v := r', recovered := false }] ∧ u = .panicking [{ v := r', recovered := false }]) → Q e a' w') → B.wp P Q a w) →
        SC P g args m v m' := by
      intro r f2 m2 hle2 hw2 hend hB
      unfold dend at hend
      split at hend
      · cases hend
      rename_i m3 ht
      simp only [Option.map_eq_some_iff, Prod.mk.injEq] at hend
      obtain ⟨vs, hvs, rfl, rfl⟩ := hend
      obtain ⟨t1, ⟨fd, cd, hfd, hcd⟩, t2⟩ := dtail_sim hP hc ht hw2
      refine ⟨⟨Nat.le_trans a1.1 (Nat.le_trans hm1.1 (Nat.le_trans hle2 t1.1)), t1.2⟩, fun φ w args' hm hb hargs => calls_of_wp_defers hfn hbody ?_⟩
      rw [hcode]
      refine wp_seq (a2 φ w _ hm hb (start_frame hargs hq1 hq2) _ fun φ0 w0 b0 hs0 hf0 hm0 hb0 hd0 => ?_)
      refine wp_seq (wp_region ?_)
      rw [show List.range (pre ++ [o]).toArray.size = List.range' 0 pre.length ++ [pre.length] by rw [List.size_toArray, List.length_append, List.length_singleton, List.range_succ, List.range_eq_range']]
      refine wpOps_last hgd _ b0 w0 (fun i hi => by rw [← List.range_eq_range'] at hi; exact List.mem_range.1 hi) ((hs _).2 φ0 w0 b0 hm0 hb0 hf0 fun φ1 w1 b1 hs1 hf1 hm1' hb1 hd1 => ?_)
      have hx := hf1.eval hq4
      rw [hlev] at hx
      generalize hev : b1.eval ov = fv at hx
      cases hx with
      | func _ _ _ ys us hys hus =>
      have hxs : VRL φ1 (xs.map f1.lev) (xs.map b1.eval) := vrl_map fun x hx => hf1.eval (List.all_eq_true.1 hq5 x hx)
      have hex : (execOp b1.eval o).run P w1 = .ok (.defer { target := .fn (.func gd) us, args := ys ++ (xs.map b1.eval).toArray }) w1 := by
        rw [ho]
        simp [execOp, resolve, hev, Deferred.ofValue]
      have hwant : ∀ t, Region.wanted o t = true := fun _ => by rw [ho]; rfl
      show wpOp P _ _ pre.length _ b1 w1
      unfold wpOp
      simp only [List.getElem?_toArray, List.getElem?_concat_length, hwant, if_true]
      left
      unfold Oper.wp
      rw [hex]
      have hdst : o.dst = none := by rw [ho]
      show B.wp P _ (({ b1 with defers := { target := .fn (.func gd) us, args := ys ++ (xs.map b1.eval).toArray } :: b1.defers } : Act).put o.dst undef) w1
      rw [hdst]
      show B.wp P _ { b1 with defers := { target := .fn (.func gd) us, args := ys ++ (xs.map b1.eval).toArray } :: b1.defers } w1
      have hall : VRL φ1 (first.toList ++ xs.map f1.lev ++ cap.toList) (ys.toList ++ xs.map b1.eval ++ us.toList) := (hys.append hxs).append hus
      refine hB φ1 w1 { b1 with defers := { target := .fn (.func gd) us, args := ys ++ (xs.map b1.eval).toArray } :: b1.defers } hm1' hb1 ⟨hf1.size, hf1.ok, hf1.val⟩ _ fun φ2 w2 b2 r' u u' e hs2 hf2 hm2 hb2 hd2 hr2 hrec he => ?_
      have hdef : b2.defers = [{ target := .fn (.func gd) us, args := ys ++ (xs.map b1.eval).toArray }] := by rw [hd2, hd1, hd0]
      have hleave : Leaves P fn b2.tmps (CallPost m m3 (ltuple vs) φ w) b2.defers u w2 := by
        rw [hdef]
        refine ⟨hrec.settles.2, .func gd, us, gd, ⟨ys.toList ++ xs.map b1.eval ++ us.toList⟩, rfl, ?_, ?_⟩
        · have hn := hP.num gd fd hfd
          have harr : ys ++ (xs.map b1.eval).toArray ++ us = ⟨ys.toList ++ xs.map b1.eval ++ us.toList⟩ := by
            apply Array.ext'; simp
          simp only [invoke, callFunc, Sem.run_bind, run_program, Result.andThen_ok, hfd, harr]
          simp [hn, hcd]
        · refine t2 φ2 w2 _ r' u u' _ hm2 hb2 (VRL.mono hs2.ext hall) hr2 hrec fun v3 φ3 w3 hs3 hm3 hb3 => ?_
          show Leaves P fn b2.tmps (CallPost m m3 (ltuple vs) φ w) [] (settle u') w3
          rw [hrec.settles.1]
          obtain ⟨v4, hv4, hv5⟩ := results_run (P := P) hm3 (hf2.mono hs3.ext) hvs
          exact ⟨v4, hv4, v4, φ3, rfl, ((hs0.trans a1.1 hs1).trans (Nat.le_trans a1.1 hm1.1) hs2).trans (Nat.le_trans a1.1 (Nat.le_trans hm1.1 hle2)) hs3, hv5, hm3, hb3⟩
      rcases he with ⟨rfl, rfl⟩ | ⟨rfl, rfl⟩ | ⟨rfl, rfl⟩
      · exact hleave
      · exact hleave
      · exact hleave
    split at h
    · rename_i f2 m2 hB
      obtain ⟨b1, b2⟩ := (exec_sim hP hc fuel).1 B f1 f2 m1 m2 .norm hB hf1ok hm1.2
      refine fin .nilIface f2 m2 b1.1 b1.2.1 h fun φ w a hm hb hf Q hQ => b2 φ w a hm hb hf Q fun φ' w' a' hs hf' hm' hb' hd' => ?_
      exact hQ φ' w' a' .nilIface .returning .returning _ hs hf' hm' hb' hd' .nilIface (.inl ⟨rfl, rfl, rfl⟩) (.inl ⟨rfl, rfl⟩)
    · rename_i f2 m2 hB
      obtain ⟨b1, b2⟩ := (exec_sim hP hc fuel).1 B f1 f2 m1 m2 .ret hB hf1ok hm1.2
      refine fin .nilIface f2 m2 b1.1 b1.2.1 h fun φ w a hm hb hf Q hQ => b2 φ w a hm hb hf Q fun φ' w' a' hs hf' hm' hb' hd' => ?_
      exact hQ φ' w' a' .nilIface .returning .returning _ hs hf' hm' hb' hd' .nilIface (.inl ⟨rfl, rfl, rfl⟩) (.inr (.inl ⟨rfl, rfl⟩))
    · cases h
    · split at h
      · rename_i r f2 m2 hB
        obtain ⟨b1, b2⟩ := pexec_sim hP hc hpc fuel B f1 f2 m1 m2 r hB hf1ok hm1.2
        refine fin r f2 m2 b1.1 b1.2.1 h fun φ w a hm hb hf Q hQ => b2 φ w a hm hb hf Q fun φ' w' a' r' hs hf' hm' hb' hd' hr' => ?_
        exact hQ φ' w' a' r' _ _ _ hs hf' hm' hb' hd' hr' (.inr ⟨rfl, rfl⟩) (.inr (.inr ⟨rfl, rfl⟩))
      · cases h

/-- a function that defers, as a primitive: what it calls is run without primitives -/
noncomputable def deferPrim [SymD] (P : Program) (X : ExtT) (gs : List FuncId) : FuncId → Option (List Value → LMem → Option (Value × LMem)) :=
  fun g => bif gs.any (Nat.beq g) then some (dcall P X (callF P X (fun _ => none) 10000 30) (pcallF P X (fun _ => none) 10000 30) 10000 g) else none

theorem deferPrim_ok (hP : POK P X) (gs : List FuncId) : PrimOK P (deferPrim P X gs) := by
  intro g p h args m v m' hp hw
  unfold deferPrim at h
  cases hb : gs.any (Nat.beq g) with
  | false => rw [hb] at h; cases h
  | true =>
    rw [hb] at h
    simp only [cond_true, Option.some.injEq] at h
    subst h
    exact dcall_sound hP (call_sound hP (noPrim P) 10000 30) (pcall_sound hP (noPrim P) 10000 30) hp hw
end
end Go.Eng
/- Code run between cut points: from its beginning, or from a loop's head, to its end or to a loop's head. -/
namespace Go.Eng
open Go.RowKit

/-- at a loop's head, ahead of a round -/
def atLoop (P : Program) (c : Code) (Q : Exit → Act → World → Prop) (a : Act) (w : World) : Prop :=
  ∀ (b : Frame) (k : List Item) (cs : List Frame), ∃ e a' w', Q e a' w' ∧ Arrives P (lone (b.at a (.code c :: .inLoop c :: k)) cs w) b k cs e a' w'

theorem wp_atLoop {P : Program} {c : Code} {Q : Exit → Act → World → Prop} {a : Act} {w : World} (h : atLoop P c Q a w) : (Code.loop c).wp P Q a w := by
  intro b k cs
  obtain ⟨e, a', w', hq, harr⟩ := h b k cs
  exact ⟨e, a', w', hq, .of_steps (.one step_loop) harr⟩

theorem atLoop_round {P : Program} {c : Code} {Q : Exit → Act → World → Prop} {a : Act} {w : World} (h : c.wp P (Exit.then (atLoop P c Q) Q) a w) : atLoop P c Q a w := by
  intro b k cs
  obtain ⟨e, a₁, w₁, hq, harr⟩ := h b (.inLoop c :: k) cs
  cases e with
  | normal =>
    obtain ⟨e₂, a₂, w₂, hq₂, harr₂⟩ := hq b k cs
    exact ⟨e₂, a₂, w₂, hq₂, .of_steps (Steps.trans harr (.one step_inLoop)) harr₂⟩
  | exit id => exact ⟨_, a₁, w₁, hq, .pass (x := .inLoop c) rfl (fun _ _ => .inl (by simp)) harr⟩
  | goto l => exact ⟨_, a₁, w₁, hq, .pass (x := .inLoop c) rfl (fun _ _ => .inl (by simp)) harr⟩
  | ret => exact ⟨_, a₁, w₁, hq, .pass (x := .inLoop c) rfl (fun _ _ => .inl (by simp)) harr⟩
  | panic ch => exact ⟨_, a₁, w₁, hq, .pass (x := .inLoop c) rfl (fun _ _ => .inl (by simp)) harr⟩
  | outgrown => exact ⟨_, a₁, w₁, hq, .pass (x := .inLoop c) rfl (fun _ _ => .inl (by simp)) harr⟩

/-- what is left from a place in code on: at the loop's head that lies there -/
def wpC (P : Program) : List Nat → Code → (Exit → Act → World → Prop) → Act → World → Prop
  | [], c, Q => match c with
    | .loop x => atLoop P x Q
    | _ => fun _ _ => False
  | i :: p, c, Q => match c with
    | .seq x y => match i with
      | 0 => wpC P p x (Exit.then (y.wp P Q) Q)
      | _ => wpC P p y Q
    | .cond _ x y => match i with
      | 0 => wpC P p x Q
      | _ => wpC P p y Q
    | .block id x => wpC P p x (Exit.inBlock id Q)
    | .loop x => wpC P p x (Exit.then (atLoop P x Q) Q)
    | _ => fun _ _ => False

/-- how a run between cut points ends -/
inductive KR where
  | done (x : LX) (f : LF) (m : LMem)
  | stop (p : List Nat) (f : LF) (m : LMem)

def KR.f : KR → LF
  | .done _ f _ => f
  | .stop _ f _ => f
def KR.m : KR → LMem
  | .done _ _ m => m
  | .stop _ _ m => m

def preK (i : Nat) (r : Option KR) : Option KR :=
  match r with
  | some (.stop p f m) => some (.stop (i :: p) f m)
  | r => r
def thenK (r : Option KR) (k : LF → LMem → Option KR) : Option KR :=
  match r with
  | some (.done .norm f m) => k f m
  | r => r
def blockK (id : Nat) (r : Option KR) : Option KR :=
  match r with
  | some (.done (.exit j) f m) => bif Nat.beq j id then some (.done .norm f m) else some (.done (.exit j) f m)
  | r => r
def loopK (r : Option KR) : Option KR :=
  match r with
  | some (.done .norm f m) => some (.stop [] f m)
  | r => r
def ofX (r : Option (LX × LF × LMem)) : Option KR :=
  match r with
  | some (x, f, m) => some (.done x f m)
  | none => none
noncomputable def condK [SymD] (x : Operand) (f : LF) (a b : Option KR) : Option KR :=
  match x with
  | .tmp t => match f.get t with
    | .bool true => a
    | .bool false => b
    | .complex k i j => match tlk (.complex k i j) SymD.tab with
      | some true => a
      | some false => b
      | none => none
    | _ => none
  | _ => none

/-- the cut points within a part -/
def selK (i : Nat) : List (List Nat) → List (List Nat)
  | [] => []
  | [] :: r => selK i r
  | (j :: p) :: r => bif Nat.beq i j then p :: selK i r else selK i r
def hasNil : List (List Nat) → Bool
  | [] => false
  | [] :: _ => true
  | _ :: r => hasNil r

noncomputable def runC [SymD] (P : Program) (X : ExtT) (call : CallT) (fuel : Nat) : Nat → List (List Nat) → Code → LF → LMem → Option KR
  | 0, _, _, _, _ => none
  | n + 1, cs, c, f, m =>
    match cs with
    | [] => ofX (execF P X call fuel c f m)
    | q :: cs => match c with
      | .seq x y => thenK (preK 0 (runC P X call fuel n (selK 0 (q :: cs)) x f m)) fun f' m' => preK 1 (runC P X call fuel n (selK 1 (q :: cs)) y f' m')
      | .cond o x y => condK o f (preK 0 (runC P X call fuel n (selK 0 (q :: cs)) x f m)) (preK 1 (runC P X call fuel n (selK 1 (q :: cs)) y f m))
      | .block id x => blockK id (preK 0 (runC P X call fuel n (selK 0 (q :: cs)) x f m))
      | .loop _ => bif hasNil (q :: cs) then some (.stop [] f m) else none
      | _ => none

noncomputable def entC [SymD] (P : Program) (X : ExtT) (call : CallT) (fuel : Nat) : Nat → List (List Nat) → List Nat → Code → LF → LMem → Option KR
  | 0, _, _, _, _, _ => none
  | n + 1, cs, [], c, f, m => match c with
    | .loop x => loopK (preK 0 (runC P X call fuel n (selK 0 cs) x f m))
    | _ => none
  | n + 1, cs, i :: p, c, f, m => match c with
    | .seq x y => match i with
      | 0 => thenK (preK 0 (entC P X call fuel n (selK 0 cs) p x f m)) fun f' m' => preK 1 (runC P X call fuel n (selK 1 cs) y f' m')
      | 1 => preK 1 (entC P X call fuel n (selK 1 cs) p y f m)
      | _ => none
    | .cond _ x y => match i with
      | 0 => preK 0 (entC P X call fuel n (selK 0 cs) p x f m)
      | 1 => preK 1 (entC P X call fuel n (selK 1 cs) p y f m)
      | _ => none
    | .block id x => match i with
      | 0 => blockK id (preK 0 (entC P X call fuel n (selK 0 cs) p x f m))
      | _ => none
    | .loop x => match i with
      | 0 => loopK (preK 0 (entC P X call fuel n (selK 0 cs) p x f m))
      | _ => none
    | _ => none

variable [SymV]

def KEnds (P : Program) (c : Code) (m : LMem) (r : KR) (φ : Phi) (a : Act) (w : World) (Q : Exit → Act → World → Prop) : Prop :=
  match r with
  | .done x f' m' => Ends m m' f' φ a w (Q (xit x))
  | .stop p f' m' => Ends m m' f' φ a w (fun a' w' => wpC P p c Q a' w')

theorem KEnds.step {P : Program} {c : Code} {m m1 : LMem} {r : KR} {φ φ1 : Phi} {a a1 : Act} {w w1 : World} {Q : Exit → Act → World → Prop} (hle : m.next ≤ m1.next) (hs : Sim m.next φ φ1 w w1) (hd : a1.defers = a.defers)
    (hE : KEnds P c m r φ a w Q) : KEnds P c m1 r φ1 a1 w1 Q := by
  cases r with
  | done x f' m' => exact Ends.step hle hs hd hE
  | stop p f' m' => exact Ends.step hle hs hd hE

def KStep (m : LMem) (r : KR) : Prop := m.next ≤ r.m.next ∧ WF r.m ∧ LFok r.f

def COK (P : Program) (c : Code) (W : (Exit → Act → World → Prop) → Act → World → Prop) (f : LF) (m : LMem) (r : KR) : Prop :=
  KStep m r ∧ ∀ φ w a, MR φ m.get w → Bd φ m.next → FR φ f a → ∀ Q : Exit → Act → World → Prop, KEnds P c m r φ a w Q → W Q a w

section
variable {P : Program} {X : ExtT} {call : CallT}

theorem runC_ok (hP : POK P X) (hc : CallSound P call) (fuel : Nat) : ∀ (n : Nat) (cs : List (List Nat)) (c : Code) (f : LF) (m : LMem) (r : KR), runC P X call fuel n cs c f m = some r → LFok f → WF m → COK P c (c.wp P) f m r := by
  intro n
  induction n with
  | zero => intro cs c f m r h; cases h
  | succ n ih =>
    intro cs c f m r h hf hm
    cases cs with
    | nil =>
      simp only [runC] at h
      unfold ofX at h
      split at h
      · rename_i x f' m' hx
        cases h
        rw [execF_eq] at hx
        obtain ⟨g1, g2⟩ := (exec_sim hP hc fuel).1 c f f' m m' x hx hf hm
        exact ⟨g1, fun φ w a hmr hb hfr Q hE => g2 φ w a hmr hb hfr Q hE⟩
      · cases h
    | cons q cs =>
      simp only [runC] at h
      cases c with
      | seq x y =>
        simp only at h
        cases hx : runC P X call fuel n (selK 0 (q :: cs)) x f m with
        | none => rw [hx] at h; cases h
        | some r0 =>
          rw [hx] at h
          obtain ⟨⟨i1, i2, i3⟩, i4⟩ := ih _ x f m r0 hx hf hm
          cases r0 with
          | stop p f1 m1 =>
            simp only [preK, thenK, Option.some.injEq] at h
            subst h
            exact ⟨⟨i1, i2, i3⟩, fun φ w a hmr hb hfr Q hE => wp_seq (i4 φ w a hmr hb hfr _ hE)⟩
          | done e f1 m1 =>
            cases e with
            | norm =>
              simp only [preK, thenK] at h
              cases hy : runC P X call fuel n (selK 1 (q :: cs)) y f1 m1 with
              | none => rw [hy] at h; cases h
              | some r1 =>
                rw [hy] at h
                obtain ⟨⟨j1, j2, j3⟩, j4⟩ := ih _ y f1 m1 r1 hy i3 i2
                have key : KStep m r ∧ ∀ φ w a Q, KEnds P (.seq x y) m r φ a w Q → KEnds P y m r1 φ a w Q := by
                  cases r1 with
                  | done e f2 m2 =>
                    simp only [Option.some.injEq] at h
                    subst h
                    exact ⟨⟨Nat.le_trans i1 j1, j2, j3⟩, fun φ w a Q hE => hE⟩
                  | stop p f2 m2 =>
                    simp only [Option.some.injEq] at h
                    subst h
                    exact ⟨⟨Nat.le_trans i1 j1, j2, j3⟩, fun φ w a Q hE => hE⟩
                refine ⟨key.1, fun φ w a hmr hb hfr Q hE => wp_seq (i4 φ w a hmr hb hfr _ ?_)⟩
                intro φ1 w1 a1 hs1 hf1 hm1 hb1 hd1
                exact j4 φ1 w1 a1 hm1 hb1 hf1 Q ((key.2 φ w a Q hE).step i1 hs1 hd1)
            | exit id =>
              simp only [preK, thenK, Option.some.injEq] at h
              subst h
              exact ⟨⟨i1, i2, i3⟩, fun φ w a hmr hb hfr Q hE => wp_seq (i4 φ w a hmr hb hfr _ hE)⟩
            | ret =>
              simp only [preK, thenK, Option.some.injEq] at h
              subst h
              exact ⟨⟨i1, i2, i3⟩, fun φ w a hmr hb hfr Q hE => wp_seq (i4 φ w a hmr hb hfr _ hE)⟩
      | cond o x y =>
        simp only at h
        have key : ∀ (t : Bool), (∀ φ a, FR φ f a → a.eval o = .bool t) → (if t then preK 0 (runC P X call fuel n (selK 0 (q :: cs)) x f m) else preK 1 (runC P X call fuel n (selK 1 (q :: cs)) y f m)) = some r → COK P (.cond o x y) ((Code.cond o x y).wp P) f m r := by
          intro t ho hr
          cases t with
          | true =>
            simp only [if_true] at hr
            cases hx : runC P X call fuel n (selK 0 (q :: cs)) x f m with
            | none => rw [hx] at hr; cases hr
            | some r0 =>
              rw [hx] at hr
              obtain ⟨⟨i1, i2, i3⟩, i4⟩ := ih _ x f m r0 hx hf hm
              cases r0 with
              | done e f2 m2 =>
                simp only [preK, Option.some.injEq] at hr
                subst hr
                exact ⟨⟨i1, i2, i3⟩, fun φ w a hmr hb hfr Q hE => wp_cond (ho φ a hfr) (by simpa using i4 φ w a hmr hb hfr Q hE)⟩
              | stop p f2 m2 =>
                simp only [preK, Option.some.injEq] at hr
                subst hr
                exact ⟨⟨i1, i2, i3⟩, fun φ w a hmr hb hfr Q hE => wp_cond (ho φ a hfr) (by simpa using i4 φ w a hmr hb hfr Q hE)⟩
          | false =>
            simp only [Bool.false_eq_true, if_false] at hr
            cases hx : runC P X call fuel n (selK 1 (q :: cs)) y f m with
            | none => rw [hx] at hr; cases hr
            | some r0 =>
              rw [hx] at hr
              obtain ⟨⟨i1, i2, i3⟩, i4⟩ := ih _ y f m r0 hx hf hm
              cases r0 with
              | done e f2 m2 =>
                simp only [preK, Option.some.injEq] at hr
                subst hr
                exact ⟨⟨i1, i2, i3⟩, fun φ w a hmr hb hfr Q hE => wp_cond (ho φ a hfr) (by simpa using i4 φ w a hmr hb hfr Q hE)⟩
              | stop p f2 m2 =>
                simp only [preK, Option.some.injEq] at hr
                subst hr
                exact ⟨⟨i1, i2, i3⟩, fun φ w a hmr hb hfr Q hE => wp_cond (ho φ a hfr) (by simpa using i4 φ w a hmr hb hfr Q hE)⟩
        unfold condK at h
        split at h
        case h_2 => cases h
        rename_i t
        have hev : ∀ φ a, FR φ f a → VR φ (f.get t) (a.eval (.tmp t)) := fun φ a hfr => hfr.eval (x := .tmp t) rfl
        split at h
        · rename_i hg
          refine key true (fun φ a hfr => ?_) (by simpa using h)
          have := hev φ a hfr
          rw [hg] at this
          generalize a.eval (.tmp t) = z at this
          cases this; rfl
        · rename_i hg
          refine key false (fun φ a hfr => ?_) (by simpa using h)
          have := hev φ a hfr
          rw [hg] at this
          generalize a.eval (.tmp t) = z at this
          cases this; rfl
        · rename_i k i j hg
          have hs : ∀ b, tlk (.complex k i j) SymD.tab = some b → ∀ φ a, FR φ f a → a.eval (.tmp t) = .bool b := by
            intro b hb φ a hfr
            have := hev φ a hfr
            rw [hg] at this
            rw [this.denP rfl]
            exact (tlk_spec SymV.ok hb).2
          split at h
          · rename_i ht; exact key true (hs _ ht) (by simpa using h)
          · rename_i ht; exact key false (hs _ ht) (by simpa using h)
          · cases h
        · cases h
      | block id x =>
        simp only at h
        cases hx : runC P X call fuel n (selK 0 (q :: cs)) x f m with
        | none => rw [hx] at h; cases h
        | some r0 =>
          rw [hx] at h
          obtain ⟨⟨i1, i2, i3⟩, i4⟩ := ih _ x f m r0 hx hf hm
          cases r0 with
          | stop p f1 m1 =>
            simp only [preK, blockK, Option.some.injEq] at h
            subst h
            exact ⟨⟨i1, i2, i3⟩, fun φ w a hmr hb hfr Q hE => wp_block (i4 φ w a hmr hb hfr _ hE)⟩
          | done e f1 m1 =>
            cases e with
            | norm =>
              simp only [preK, blockK, Option.some.injEq] at h
              subst h
              exact ⟨⟨i1, i2, i3⟩, fun φ w a hmr hb hfr Q hE => wp_block (i4 φ w a hmr hb hfr _ hE)⟩
            | ret =>
              simp only [preK, blockK, Option.some.injEq] at h
              subst h
              exact ⟨⟨i1, i2, i3⟩, fun φ w a hmr hb hfr Q hE => wp_block (i4 φ w a hmr hb hfr _ hE)⟩
            | exit j =>
              simp only [preK, blockK] at h
              cases hj : Nat.beq j id with
              | true =>
                rw [hj] at h
                simp only [cond_true, Option.some.injEq] at h
                subst h
                have := Nat.eq_of_beq_eq_true hj
                subst this
                refine ⟨⟨i1, i2, i3⟩, fun φ w a hmr hb hfr Q hE => wp_block (i4 φ w a hmr hb hfr _ ?_)⟩
                intro φ1 w1 a1 hs1 hf1 hm1 hb1 hd1
                simp only [xit, Exit.inBlock, if_true]
                exact hE φ1 w1 a1 hs1 hf1 hm1 hb1 hd1
              | false =>
                rw [hj] at h
                simp only [cond_false, Option.some.injEq] at h
                subst h
                have hne : j ≠ id := fun he => by subst he; rw [Nat.beq_refl] at hj; cases hj
                refine ⟨⟨i1, i2, i3⟩, fun φ w a hmr hb hfr Q hE => wp_block (i4 φ w a hmr hb hfr _ ?_)⟩
                intro φ1 w1 a1 hs1 hf1 hm1 hb1 hd1
                simp only [xit, Exit.inBlock, if_neg hne]
                exact hE φ1 w1 a1 hs1 hf1 hm1 hb1 hd1
      | loop x =>
        simp only at h
        cases hn : hasNil (q :: cs) with
        | false => rw [hn] at h; cases h
        | true =>
          rw [hn] at h
          simp only [cond_true, Option.some.injEq] at h
          subst h
          exact ⟨⟨Nat.le_refl _, hm, hf⟩, fun φ w a hmr hb hfr Q hE => wp_atLoop (hE φ w a (Sim.refl _ φ w) hfr hmr hb rfl)⟩
      | _ => cases h

/-- what comes behind a loop's body -/
theorem loop_ends {x : Code} {m : LMem} {r0 r : KR} (h : loopK (preK 0 (some r0)) = some r) (hs : KStep m r0) : KStep m r ∧ ∀ φ w a (Q : Exit → Act → World → Prop), KEnds P (.loop x) m r φ a w Q → KEnds P x m r0 φ a w (Exit.then (atLoop P x Q) Q) := by
  cases r0 with
  | stop p f1 m1 =>
    simp only [preK, loopK, Option.some.injEq] at h
    subst h
    exact ⟨hs, fun φ w a Q hE => hE⟩
  | done e f1 m1 =>
    cases e with
    | norm =>
      simp only [preK, loopK, Option.some.injEq] at h
      subst h
      exact ⟨hs, fun φ w a Q hE => hE⟩
    | exit id =>
      simp only [preK, loopK, Option.some.injEq] at h
      subst h
      exact ⟨hs, fun φ w a Q hE => hE⟩
    | ret =>
      simp only [preK, loopK, Option.some.injEq] at h
      subst h
      exact ⟨hs, fun φ w a Q hE => hE⟩

theorem block_ends {x : Code} {id : Nat} {m : LMem} {r0 r : KR} (h : blockK id (preK 0 (some r0)) = some r) (hs : KStep m r0) : KStep m r ∧ ∀ φ w a (Q : Exit → Act → World → Prop), KEnds P (.block id x) m r φ a w Q → KEnds P x m r0 φ a w (Exit.inBlock id Q) := by
  cases r0 with
  | stop p f1 m1 =>
    simp only [preK, blockK, Option.some.injEq] at h
    subst h
    exact ⟨hs, fun φ w a Q hE => hE⟩
  | done e f1 m1 =>
    cases e with
    | norm =>
      simp only [preK, blockK, Option.some.injEq] at h
      subst h
      exact ⟨hs, fun φ w a Q hE => hE⟩
    | ret =>
      simp only [preK, blockK, Option.some.injEq] at h
      subst h
      exact ⟨hs, fun φ w a Q hE => hE⟩
    | exit j =>
      simp only [preK, blockK] at h
      cases hj : Nat.beq j id with
      | true =>
        rw [hj] at h
        simp only [cond_true, Option.some.injEq] at h
        subst h
        have := Nat.eq_of_beq_eq_true hj
        subst this
        refine ⟨hs, fun φ w a Q hE φ1 w1 a1 hs1 hf1 hm1 hb1 hd1 => ?_⟩
        simp only [xit, Exit.inBlock, if_true]
        exact hE φ1 w1 a1 hs1 hf1 hm1 hb1 hd1
      | false =>
        rw [hj] at h
        simp only [cond_false, Option.some.injEq] at h
        subst h
        have hne : j ≠ id := fun he => by subst he; rw [Nat.beq_refl] at hj; cases hj
        refine ⟨hs, fun φ w a Q hE φ1 w1 a1 hs1 hf1 hm1 hb1 hd1 => ?_⟩
        simp only [xit, Exit.inBlock, if_neg hne]
        exact hE φ1 w1 a1 hs1 hf1 hm1 hb1 hd1

theorem entC_ok (hP : POK P X) (hc : CallSound P call) (fuel : Nat) : ∀ (n : Nat) (cs : List (List Nat)) (p : List Nat) (c : Code) (f : LF) (m : LMem) (r : KR), entC P X call fuel n cs p c f m = some r → LFok f → WF m → COK P c (wpC P p c) f m r := by
  intro n
  induction n with
  | zero => intro cs p c f m r h; cases h
  | succ n ih =>
    intro cs p c f m r h hf hm
    cases p with
    | nil =>
      simp only [entC] at h
      cases c with
      | loop x =>
        simp only at h
        cases hx : runC P X call fuel n (selK 0 cs) x f m with
        | none => rw [hx] at h; cases h
        | some r0 =>
          rw [hx] at h
          obtain ⟨i1, i4⟩ := runC_ok hP hc fuel n _ x f m r0 hx hf hm
          obtain ⟨j1, j2⟩ := loop_ends (x := x) h i1
          exact ⟨j1, fun φ w a hmr hb hfr Q hE => atLoop_round (i4 φ w a hmr hb hfr _ (j2 φ w a Q hE))⟩
      | _ => cases h
    | cons i p =>
      simp only [entC] at h
      cases c with
      | seq x y =>
        simp only at h
        split at h
        · cases hx : entC P X call fuel n (selK 0 cs) p x f m with
          | none => rw [hx] at h; cases h
          | some r0 =>
            rw [hx] at h
            obtain ⟨⟨i1, i2, i3⟩, i4⟩ := ih _ p x f m r0 hx hf hm
            cases r0 with
            | stop p f1 m1 =>
              simp only [preK, thenK, Option.some.injEq] at h
              subst h
              exact ⟨⟨i1, i2, i3⟩, fun φ w a hmr hb hfr Q hE => i4 φ w a hmr hb hfr _ hE⟩
            | done e f1 m1 =>
              cases e with
              | norm =>
                simp only [preK, thenK] at h
                cases hy : runC P X call fuel n (selK 1 cs) y f1 m1 with
                | none => rw [hy] at h; cases h
                | some r1 =>
                  rw [hy] at h
                  obtain ⟨⟨j1, j2, j3⟩, j4⟩ := runC_ok hP hc fuel n _ y f1 m1 r1 hy i3 i2
                  have key : KStep m r ∧ ∀ φ w a Q, KEnds P (.seq x y) m r φ a w Q → KEnds P y m r1 φ a w Q := by
                    cases r1 with
                    | done e f2 m2 =>
                      simp only [Option.some.injEq] at h
                      subst h
                      exact ⟨⟨Nat.le_trans i1 j1, j2, j3⟩, fun φ w a Q hE => hE⟩
                    | stop p f2 m2 =>
                      simp only [Option.some.injEq] at h
                      subst h
                      exact ⟨⟨Nat.le_trans i1 j1, j2, j3⟩, fun φ w a Q hE => hE⟩
                  refine ⟨key.1, fun φ w a hmr hb hfr Q hE => i4 φ w a hmr hb hfr _ ?_⟩
                  intro φ1 w1 a1 hs1 hf1 hm1 hb1 hd1
                  exact j4 φ1 w1 a1 hm1 hb1 hf1 Q ((key.2 φ w a Q hE).step i1 hs1 hd1)
              | exit id =>
                simp only [preK, thenK, Option.some.injEq] at h
                subst h
                exact ⟨⟨i1, i2, i3⟩, fun φ w a hmr hb hfr Q hE => i4 φ w a hmr hb hfr _ hE⟩
              | ret =>
                simp only [preK, thenK, Option.some.injEq] at h
                subst h
                exact ⟨⟨i1, i2, i3⟩, fun φ w a hmr hb hfr Q hE => i4 φ w a hmr hb hfr _ hE⟩
        · cases hx : entC P X call fuel n (selK 1 cs) p y f m with
          | none => rw [hx] at h; cases h
          | some r0 =>
            rw [hx] at h
            obtain ⟨i1, i4⟩ := ih _ p y f m r0 hx hf hm
            cases r0 with
            | done e f2 m2 =>
              simp only [preK, Option.some.injEq] at h
              subst h
              exact ⟨i1, fun φ w a hmr hb hfr Q hE => i4 φ w a hmr hb hfr Q hE⟩
            | stop p2 f2 m2 =>
              simp only [preK, Option.some.injEq] at h
              subst h
              exact ⟨i1, fun φ w a hmr hb hfr Q hE => i4 φ w a hmr hb hfr Q hE⟩
        · cases h
      | cond o x y =>
        simp only at h
        split at h
        · cases hx : entC P X call fuel n (selK 0 cs) p x f m with
          | none => rw [hx] at h; cases h
          | some r0 =>
            rw [hx] at h
            obtain ⟨i1, i4⟩ := ih _ p x f m r0 hx hf hm
            cases r0 with
            | done e f2 m2 =>
              simp only [preK, Option.some.injEq] at h
              subst h
              exact ⟨i1, fun φ w a hmr hb hfr Q hE => i4 φ w a hmr hb hfr Q hE⟩
            | stop p2 f2 m2 =>
              simp only [preK, Option.some.injEq] at h
              subst h
              exact ⟨i1, fun φ w a hmr hb hfr Q hE => i4 φ w a hmr hb hfr Q hE⟩
        · cases hx : entC P X call fuel n (selK 1 cs) p y f m with
          | none => rw [hx] at h; cases h
          | some r0 =>
            rw [hx] at h
            obtain ⟨i1, i4⟩ := ih _ p y f m r0 hx hf hm
            cases r0 with
            | done e f2 m2 =>
              simp only [preK, Option.some.injEq] at h
              subst h
              exact ⟨i1, fun φ w a hmr hb hfr Q hE => i4 φ w a hmr hb hfr Q hE⟩
            | stop p2 f2 m2 =>
              simp only [preK, Option.some.injEq] at h
              subst h
              exact ⟨i1, fun φ w a hmr hb hfr Q hE => i4 φ w a hmr hb hfr Q hE⟩
        · cases h
      | block id x =>
        simp only at h
        split at h
        · cases hx : entC P X call fuel n (selK 0 cs) p x f m with
          | none => rw [hx] at h; cases h
          | some r0 =>
            rw [hx] at h
            obtain ⟨i1, i4⟩ := ih _ p x f m r0 hx hf hm
            obtain ⟨j1, j2⟩ := block_ends (x := x) h i1
            exact ⟨j1, fun φ w a hmr hb hfr Q hE => i4 φ w a hmr hb hfr _ (j2 φ w a Q hE)⟩
        · cases h
      | loop x =>
        simp only at h
        split at h
        · cases hx : entC P X call fuel n (selK 0 cs) p x f m with
          | none => rw [hx] at h; cases h
          | some r0 =>
            rw [hx] at h
            obtain ⟨i1, i4⟩ := ih _ p x f m r0 hx hf hm
            obtain ⟨j1, j2⟩ := loop_ends (x := x) h i1
            exact ⟨j1, fun φ w a hmr hb hfr Q hE => i4 φ w a hmr hb hfr _ (j2 φ w a Q hE)⟩
        · cases h
      | _ => cases h
end
end Go.Eng
/- A memory seen as a pattern with symbols: what matches, stands for the same. -/
namespace Go.Eng
open Go.RowKit

/-- what a pattern's block is in the memory: a block; a list that is nil; rows within cells; nothing -/
inductive PB where
  | same (b : Nat)
  | nil
  | rows (b off len k : Nat)
  | dead

/-- the symbols of a pattern told: scalars; lists (and the size of their rows); blocks; blocks that stay as they are from here on -/
structure Sub where
  ss : List Value
  ls : List (Value × Nat)
  ρ : List PB
  fr : List Nat
  tmp : Bool

def pbAt (ρ : List PB) (j : Nat) : Option PB := match j with
  | 0 => some .dead
  | j + 1 => ρ[j]?

def pbId : PB → Option Nat
  | .same b => some b
  | .rows b _ _ _ => some b
  | _ => none

/-- the blocks that a pattern takes -/
def Sub.ids (a : Sub) : List Nat := a.ρ.filterMap pbId

def natIn (n : Nat) : List Nat → Bool
  | [] => false
  | k :: r => Nat.beq n k || natIn n r
theorem natIn_mem {n : Nat} : ∀ {l : List Nat}, natIn n l = true ↔ n ∈ l
  | [] => by simp [natIn]
  | k :: r => by
    simp only [natIn, Bool.or_eq_true, List.mem_cons, natIn_mem (l := r)]
    refine ⟨fun h => h.elim (fun h => .inl (Nat.eq_of_beq_eq_true h)) .inr, fun h => h.elim (fun h => .inl (by rw [h]; exact Nat.beq_refl _)) .inr⟩

def distL : List Nat → Bool
  | [] => true
  | k :: r => !natIn k r && distL r

/-- may it be taken for a list that stays as it is? -/
def Sub.frz (a : Sub) (b : Nat) : Bool := (a.tmp || natIn b a.fr) && !natIn b a.ids

def isNilV : Value → Bool
  | .slice none 0 0 => true
  | _ => false
theorem isNilV_eq {v : Value} (h : isNilV v = true) : v = .slice none 0 0 := by
  unfold isNilV at h
  split at h
  · rfl
  · cases h

/-- rows of cells, as a list that has a number -/
def rowsAre [SymD] (c : List Value) (off len k : Nat) (y : Value) : Bool :=
  match lrow c off (len * k) with
  | some old => old.all isLxP && Nat.ble 1 k && (match llk (.lit k) old SymD.ltab with
    | some z => leqx z y
    | none => false)
  | none => false

/-- a list that stays as it is -/
def fmt [SymD] (g : Nat → Option LB) (a : Sub) (x y : Value) (k : Nat) : Bool :=
  match x with
  | .float p n => leqx (.float p n) y
  | .slice none 0 0 => isNilV y
  | .chan (some b) => a.frz b && (match g b with
    | some (.lst _ _ s) => leqx (.float .f64 s) y
    | _ => false)
  | .slice (some ⟨b, off, sp⟩) len cap => a.frz b && !(isZ sp || isZ2 sp cap) && (match g b with
    | some (.cells c) => roomOK sp k (off + cap * k) c.length && rowsAre c off len k y
    | some (.ro c) => roomOK sp k (off + cap * k) c.length && rowsAre c off len k y
    | _ => false)
  | _ => false

def chanM (g : Nat → Option LB) (a : Sub) (j : Nat) (x : Value) : Bool :=
  match pbAt a.ρ j with
  | some (.same b) => match x with
    | .chan (some b') => Nat.beq b b'
    | _ => false
  | some .nil => isNilV x
  | some (.rows b off len k) => match x with
    | .slice (some ⟨b', off', sp⟩) len' cap => Nat.beq b b' && Nat.beq off off' && Nat.beq len len' && !(isZ sp || isZ2 sp cap) && (match g b with
      | some (.cells c) => roomOK sp k (off + cap * k) c.length
      | _ => false)
    | _ => false
  | _ => false

def sameM (a : Sub) (j b : Nat) : Bool :=
  match pbAt a.ρ j with
  | some (.same b') => Nat.beq b b'
  | _ => false

def spEq : Option Nat → Option Nat → Bool
  | none, none => true
  | some a, some b => Nat.beq a b
  | _, _ => false
theorem spEq_eq {a b : Option Nat} (h : spEq a b = true) : a = b := by
  cases a <;> cases b <;> first | rfl | cases h | exact congrArg some (Nat.eq_of_beq_eq_true h)

def all2 (f : Value → Value → Bool) : List Value → List Value → Bool
  | [], [] => true
  | p :: ps, x :: xs => f p x && all2 f ps xs
  | _, _ => false

/-- does a value match a pattern's? -/
def mt [SymD] (g : Nat → Option LB) (a : Sub) : Nat → Value → Value → Bool
  | 0, _, _ => false
  | n + 1, p, x => match p with
    | .complex _ i _ => (match a.ss[i]? with
      | some s => peq x s
      | none => false)
    | .float _ i => (match a.ls[i]? with
      | some y => fmt g a x y.1 y.2
      | none => false)
    | .chan (some j) => chanM g a j x
    | .pointer (some ⟨j, o, none⟩) => (match x with
      | .pointer (some ⟨b, o', none⟩) => sameM a j b && Nat.beq o o'
      | _ => false)
    | .slice (some ⟨j, o, sp⟩) l c => (match x with
      | .slice (some ⟨b, o', sp'⟩) l' c' => sameM a j b && Nat.beq o o' && spEq sp sp' && Nat.beq l l' && Nat.beq c c'
      | _ => false)
    | .map (some j) => (match x with
      | .map (some b) => sameM a j b
      | _ => false)
    | .bool u => (match x with
      | .bool v => u == v
      | _ => false)
    | .int k u => (match x with
      | .int k' v => decide (k = k') && decide (u = v)
      | _ => false)
    | .string u => (match x with
      | .string v => u.data.toList == v.data.toList
      | _ => false)
    | .pointer none => (match x with
      | .pointer none => true
      | _ => false)
    | .slice none l c => (match x with
      | .slice none l' c' => Nat.beq l l' && Nat.beq c c'
      | _ => false)
    | .map none => (match x with
      | .map none => true
      | _ => false)
    | .nilFunc => (match x with
      | .nilFunc => true
      | _ => false)
    | .nilIface => (match x with
      | .nilIface => true
      | _ => false)
    | .iface t q => (match x with
      | .iface u y => Nat.beq t u && mt g a n q y
      | _ => false)
    | .func (.func f) ps qs => (match x with
      | .func (.func f') xs ys => Nat.beq f f' && all2 (mt g a n) ps.toList xs.toList && all2 (mt g a n) qs.toList ys.toList
      | _ => false)
    | .agg ps => (match x with
      | .agg xs => all2 (mt g a n) ps.toList xs.toList
      | _ => false)
    | .tuple ps => (match x with
      | .tuple xs => all2 (mt g a n) ps.toList xs.toList
      | _ => false)
    | _ => false

def ents [SymD] (g : Nat → Option LB) (a : Sub) : List MapEntry → List MapEntry → Bool
  | [], [] => true
  | p :: ps, x :: xs => veq 7 p.key x.key && Nat.beq (ub p.key) 0 && Nat.beq p.born x.born && mt g a 7 p.val x.val && ents g a ps xs
  | _, _ => false

def bq (a b : Bool) : Bool := a == b

/-- does a block match a pattern's? -/
def bmt [SymD] (g : Nat → Option LB) (a : Sub) (pb : PB) (p : LB) : Bool :=
  match pb with
  | .dead => (match p with
    | .dead => true
    | _ => false)
  | .nil => (match p with
    | .lst _ _ i => (match a.ls[i]? with
      | some y => isNilV y.1
      | none => false)
    | _ => false)
  | .rows b off len k => (match p with
    | .lst false k' i => (match a.ls[i]? with
      | some y => Nat.beq k k' && (match g b with
        | some (.cells c) => Nat.ble (Nat.add off (Nat.mul len k)) c.length && rowsAre c off len k y.1
        | _ => false)
      | none => false)
    | _ => false)
  | .same b => (match p with
    | .cells ps => (match g b with
      | some (.cells xs) => all2 (mt g a 7) ps xs
      | _ => false)
    | .ro ps => (match g b with
      | some (.ro xs) => all2 (mt g a 7) ps xs
      | _ => false)
    | .map ps ck => (match g b with
      | some (.map xs ck') => Nat.beq ck ck' && ents g a ps xs
      | _ => false)
    | .lst ro k i => (match g b with
      | some (.lst ro' k' s) => bq ro ro' && Nat.beq k k' && (match a.ls[i]? with
        | some y => leqx (.float .f64 s) y.1
        | none => false)
      | _ => false)
    | .dead => false)

def bmts [SymD] (g : Nat → Option LB) (a : Sub) : List PB → List LB → Bool
  | [], [] => true
  | pb :: pbs, p :: ps => bmt g a pb p && bmts g a pbs ps
  | _, _ => false

/-- does a memory match a pattern's? -/
def memM [SymD] (g : Nat → Option LB) (a : Sub) (pm : List LB) : Bool := bmts g a a.ρ pm && distL a.ids && a.ss.all isScP && a.ls.all (fun y => isLxP y.1)

def numb : Nat → List LB → List (Nat × LB)
  | _, [] => []
  | i, b :: r => (i, b) :: numb (Nat.succ i) r
def memC (pm : List LB) : List (Nat × LB) := (0, .dead) :: numb 1 pm
def nC (pm : List LB) : Nat := Nat.succ pm.length
/-- a pattern's memory -/
noncomputable def patM (pm : List LB) : LMem := mem (nC pm) (memC pm)

theorem lk_numb : ∀ (pm : List LB) (i j : Nat), lk (numb i pm) (i + j) = pm[j]?
  | [], _, _ => by simp [numb, lk]
  | b :: r, i, j => by
    simp only [numb, lk]
    cases j with
    | zero => simp
    | succ j =>
      rw [if_neg (by omega), show i + (j + 1) = Nat.succ i + j by omega, lk_numb r (Nat.succ i) j]
      simp

theorem memC_lt : ∀ {pm : List LB} {i : Nat} {p : Nat × LB}, p ∈ numb i pm → i ≤ p.1 ∧ p.1 < i + pm.length ∧ p.2 ∈ pm
  | [], _, _, h => by simp [numb] at h
  | b :: r, i, p, h => by
    rcases List.mem_cons.1 h with rfl | h
    · simp
    · obtain ⟨h1, h2, h3⟩ := memC_lt h
      refine ⟨by omega, by simp; omega, by simp [h3]⟩

theorem patM_get {pm : List LB} (hn : nC pm ≤ 16384) {j : Nat} (hj : j < nC pm) : (patM pm).get j = some (match j with
    | 0 => .dead
    | j + 1 => pm.getD j .dead) := by
  have hl : ∀ p ∈ memC pm, p.1 < 65536 := fun p hp => by
    rcases List.mem_cons.1 hp with rfl | hp
    · show 0 < 65536; omega
    · obtain ⟨_, h2, _⟩ := memC_lt hp
      unfold nC at hn; omega
  unfold patM
  rw [mem_get hl hn hj]
  cases j with
  | zero => rfl
  | succ j =>
    have : lk (memC pm) (j + 1) = pm[j]? := by
      unfold memC
      simp only [lk]
      rw [if_neg (by omega), show j + 1 = 1 + j by omega, lk_numb]
    rw [this]
    rfl

/-- the blocks' numbers in a pattern are the pattern's own -/
def patOK (pm : List LB) : Bool := Nat.ble (nC pm) 16384 && pm.all fun b => Nat.ble (ubB b) (nC pm)

theorem patM_wf {pm : List LB} (h : patOK pm = true) : WF (patM pm) := by
  unfold patOK at h
  rw [Bool.and_eq_true, List.all_eq_true] at h
  have hn := Nat.le_of_ble_eq_true h.1
  refine mem_wf hn fun p hp => ?_
  rcases List.mem_cons.1 hp with rfl | hp
  · exact ⟨Nat.succ_pos _, Nat.zero_le _⟩
  · obtain ⟨_, h2, h3⟩ := memC_lt hp
    exact ⟨by unfold nC; omega, Nat.le_of_ble_eq_true (h.2 _ h3)⟩
theorem patM_next (pm : List LB) : (patM pm).next = nC pm := rfl
end Go.Eng
/- What matches a pattern stands for the same: the proof. -/
namespace Go.Eng
open Go.RowKit

/-- where a pattern's blocks lie -/
def phiM (a : Sub) (φ : Phi) (z : Nat → Option Obj) : Phi :=
  ⟨fun j => match pbAt a.ρ j with
    | some (.same b) => φ b
    | some .nil => some none
    | some (.rows b off len k) => (match φ b with
      | some (some l) => some (some ⟨l.b, l.sh + off, l.sz, len, k⟩)
      | some none => some none
      | none => none)
    | some .dead => (match j with
      | 0 => some none
      | _ => (match φ j with
        | some _ => some none
        | none => none))
    | none => none, z,
   fun j => match pbAt a.ρ j with
    | some (.same b) => φ.nl b
    | some .nil => true
    | _ => false⟩

structure MatchH (S1 S2 : SymV) (a : Sub) (φ : Phi) (g : Nat → Option LB) (w : World) (z : Nat → Option Obj) : Prop where
  mr : @MR S1 φ g w
  val : ∀ i s, a.ss[i]? = some s → isScP s = true ∧ S2.val i = den S1.val s
  lst : ∀ i y, a.ls[i]? = some y → isLxP y.1 = true ∧ S2.lst i = denX S1.val S1.lst y.1
  z1 : ∀ b o, φ.fz b = some o → z b = some o
  z2 : ∀ b o, z b = some o → w.heap[b]? = some o ∧ ∃ c e m, o = .cells c e m
  z3 : ∀ b o, z b = some o → ∀ id l, natIn id a.ids = true → φ id = some (some l) → l.b ≠ b
  z4 : ∀ id l, a.frz id = true → φ id = some (some l) → (∃ c e m, w.heap[l.b]? = some (.cells c e m)) → z l.b = w.heap[l.b]?

theorem lk_den {S1 : SymV} {k : Nat} {old : List Value} {y : Value} (h : (match llk (.lit k) old S1.ltab with
    | some z => leqx z y
    | none => false) = true) : lsev (.lit k) (old.map (denX S1.val S1.lst)) = some (denX S1.val S1.lst y) := by
  split at h
  · rename_i z hz
    obtain ⟨_, _, h3⟩ := llk_spec S1.lok hz
    rw [h3, (leqx_den (val := S1.val) (lst := S1.lst) h).1]
  · cases h

/-- rows that are known, as a list that has a number -/
theorem rowsAre_spec {S1 : SymV} {c : List Value} {off len k : Nat} {y : Value} (h : @rowsAre S1.toSymD c off len k y = true) : ∃ old, lrow c off (len * k) = some old ∧ old.all isLxP = true ∧ 1 ≤ k ∧ old.length = len * k ∧
    ∃ rs : List (List Value), denX S1.val S1.lst y = lv rs ∧ rs.length = len ∧ (∀ r ∈ rs, r.length = k) ∧ rs.flatten = old.map (denX S1.val S1.lst) := by
  unfold rowsAre at h
  split at h
  case h_2 => cases h
  rename_i old hold
  simp only [Bool.and_eq_true] at h
  have h3 := lk_den h.2
  have hk := Nat.le_of_ble_eq_true h.1.2
  have hlen : old.length = len * k := by
    unfold lrow at hold
    cases hb : Nat.beq ((c.drop off).take (len * k)).length (len * k) with
    | false => simp only [hb, cond_false] at hold; cases hold
    | true =>
      simp only [hb, cond_true, Option.some.injEq] at hold
      rw [← hold]
      exact Nat.eq_of_beq_eq_true hb
  refine ⟨old, hold, h.1.1, hk, hlen, chunk k old.length (old.map (denX S1.val S1.lst)), ?_, ?_⟩
  · simp only [lsev, List.length_map] at h3
    cases hq : (Nat.ble 1 k && Nat.beq (old.length % k) 0) with
    | false => rw [hq] at h3; cases h3
    | true =>
      rw [hq] at h3
      exact (Option.some.inj h3).symm
  · obtain ⟨f1, f2, f3⟩ := @chunk_spec noSymV k hk old.length len (old.map (denX S1.val S1.lst)) (by rw [List.length_map]; exact hlen) (by rw [List.length_map]; exact Nat.le_refl _)
    exact ⟨f1, f2, f3⟩

theorem lrow_spec {c vs : List Value} {off n : Nat} (h : lrow c off n = some vs) : vs = (c.drop off).take n ∧ vs.length = n := by
  unfold lrow at h
  cases hb : Nat.beq ((c.drop off).take n).length n with
  | false => simp only [hb, cond_false] at h; cases h
  | true =>
    simp only [hb, cond_true, Option.some.injEq] at h
    refine ⟨h.symm, ?_⟩
    rw [← h]
    exact Nat.eq_of_beq_eq_true hb

/-- the rows where the cells lie -/
theorem rows_in {S1 : SymV} {φ : Phi} {c : List Value} {l : Loc} {w : World} {off len k : Nat} {y : Value} (hbr : @BRr S1 φ c l w) (h : @rowsAre S1.toSymD c off len k y = true) :
    ∃ (c' : Array Value) (e : TypeId) (m : Nat × Nat) (rs : List (List Value)), w.heap[l.b]? = some (.cells c' e m) ∧ c'.size = l.sz ∧ l.sh + c.length ≤ l.sz ∧ off + len * k ≤ c.length + (if len * k = 0 then off else 0) ∧ 1 ≤ k ∧ denX S1.val S1.lst y = lv rs ∧ rs.length = len ∧ RowsIn φ.fz c' (l.sh + off) k rs := by
  obtain ⟨old, h1, h2, h3, h4, rs, h5, h6, h7, h8⟩ := rowsAre_spec h
  obtain ⟨c', e, m, b1, b2, b3, b4⟩ := hbr
  obtain ⟨hold, hol⟩ := lrow_spec h1
  refine ⟨c', e, m, rs, b1, b2, b3, ?_, h3, h5, h6, @RowsIn.of_flat S1 _ _ _ _ _ h7 fun j d hj => ?_⟩
  · by_cases h0 : len * k = 0
    · rw [if_pos h0]; omega
    · rw [if_neg h0]
      rw [hold, List.length_take, List.length_drop] at hol
      omega
  · rw [h8, List.getElem?_map] at hj
    simp only [Option.map_eq_some_iff] at hj
    obtain ⟨x0, hx0, rfl⟩ := hj
    have hx1 := hx0
    rw [hold, List.getElem?_take] at hx0
    split at hx0
    · rw [List.getElem?_drop] at hx0
      obtain ⟨v', w1, w2⟩ := b4 _ x0 hx0
      exact ⟨v', by rw [Nat.add_assoc]; exact w1, @VR.toDen S1 _ _ _ (List.all_eq_true.1 h2 x0 (List.mem_of_getElem? hx1)) w2⟩
    · cases hx0

theorem room_spec {S1 : SymV} {φ : Phi} {b off len cap k n : Nat} {sp : Option Nat} {v : Value} {l : Loc} (hv : @VR S1 φ (.slice (some ⟨b, off, sp⟩) len cap) v) (hl : φ b = some (some l)) (hz : (isZ sp || isZ2 sp cap) = false) (hr : roomOK sp k (off + cap * k) n = true) (hn : l.sh + n ≤ l.sz) :
    ∃ cap', v = .slice (some ⟨l.b, l.sh + off, none⟩) len cap' ∧ len ≤ cap' ∧ l.sh + off + cap' * k ≤ l.sz := by
  cases hv with
  | slice _ _ _ _ _ cap' l' hl' hlen hcap hex hsz =>
    rw [hl] at hl'; cases hl'
    refine ⟨cap', rfl, Nat.le_trans hlen hcap, ?_⟩
    cases sp with
    | none =>
      have h1 := hex rfl
      have h2 := Nat.le_of_ble_eq_true hr
      subst h1
      omega
    | some es =>
      have h2 := Nat.eq_of_beq_eq_true hr
      have h1 := hsz es rfl
      rw [h2] at h1
      exact h1
  | sdead _ _ _ _ _ _ _ hd => rw [hl] at hd; cases hd
  | szero => simp [isZ2] at hz

section
variable {S1 S2 : SymV} {a : Sub} {φ : Phi} {g : Nat → Option LB} {w : World} {z : Nat → Option Obj}

theorem fmt_den (H : MatchH S1 S2 a φ g w z) {x v : Value} {y : Value} {k : Nat} (h : @fmt S1.toSymD g a x y k = true) (hv : @VR S1 φ x v) : DenF z v (denX S1.val S1.lst y) := by
  have hp := @MR.part S1 _ _ _ H.mr
  unfold fmt at h
  split at h
  · rename_i p n
    obtain ⟨h1, _⟩ := leqx_den (val := S1.val) (lst := S1.lst) h
    have := (@VR.lsymD S1 _ _ _ _ hv).mono H.z1
    rw [← h1]
    exact this
  · rw [isNilV_eq h]
    cases hv
    exact .sc _ rfl
  · rename_i b
    rw [Bool.and_eq_true] at h
    obtain ⟨hf, h⟩ := h
    split at h
    · rename_i ro k' s hg
      obtain ⟨h1, _⟩ := leqx_den (val := S1.val) (lst := S1.lst) h
      rw [← h1]
      rcases @chan_cells S1 _ _ _ _ _ _ _ _ hp hv hg with ⟨q0, _, rfl, hn⟩ | ⟨l, cap, q0, rfl, q2, q3, rs, hrs, c, e, m, b1, b2, b3, b4, b5, b6, b7⟩
      · show DenF z _ (S1.lst s)
        rw [hn]; exact .sc _ rfl
      · show DenF z _ (S1.lst s)
        rw [hrs, ← b4]
        have hz := H.z4 b l hf q0 ⟨c, e, m, b1⟩
        rw [b1] at hz
        exact @RowsIn.den S1 _ _ _ _ _ _ _ _ _ hz (by omega) b6.1 (by rw [b3, ← b5]; exact q3) (@RowsIn.mono S1 _ _ H.z1 _ _ _ _ b7)
    · cases h
  · rename_i b off sp len cap
    rw [Bool.and_eq_true, Bool.and_eq_true, Bool.not_eq_true'] at h
    obtain ⟨⟨hf, hzz⟩, h⟩ := h
    have key : ∀ (c : List Value) (B : LB), g b = some B → (∀ ro k s, B ≠ .lst ro k s) → B ≠ .dead → (∀ l, φ b = some (some l) → @BRr S1 φ c l w) → roomOK sp k (off + cap * k) c.length = true → @rowsAre S1.toSymD c off len k y = true → DenF z v (denX S1.val S1.lst y) := by
      intro c B hB h1 h2 hbr hr hrow
      have hlive : ∃ l, φ b = some (some l) := by
        cases hv with
        | slice _ _ _ _ _ _ l hl => exact ⟨l, hl⟩
        | szero _ _ _ _ l hl => exact ⟨l, hl⟩
        | sdead _ _ _ _ _ _ _ hd => exact absurd (@MR.deadB S1 _ _ _ H.mr _ _ hB hd h1) h2
      obtain ⟨l, hl⟩ := hlive
      obtain ⟨c', e, m, rs, r1, r2, r3, r4, r5, r6, r7, r8⟩ := rows_in (hbr l hl) hrow
      obtain ⟨cap', rfl, c1, c2⟩ := room_spec hv hl hzz hr r3
      have hz := H.z4 b l hf hl ⟨c', e, m, r1⟩
      rw [r1] at hz
      rw [r6, ← r7]
      exact @RowsIn.den S1 _ _ _ _ _ _ _ _ _ hz (by omega) r5 (by omega) (@RowsIn.mono S1 _ _ H.z1 _ _ _ _ r8)
    split at h
    · rename_i c hg
      rw [Bool.and_eq_true] at h
      exact key c _ hg (fun _ _ _ h => by cases h) (fun h => by cases h) (fun l hl => @BR.rd S1 _ _ _ _ (.inl ((hp b _ hg).1 l hl))) h.1 h.2
    · rename_i c hg
      rw [Bool.and_eq_true] at h
      exact key c _ hg (fun _ _ _ h => by cases h) (fun h => by cases h) (fun l hl => @BR.rd S1 _ _ _ _ (.inr ((hp b _ hg).1 l hl))) h.1 h.2
    · cases h
  · cases h

theorem phiM_same {j b : Nat} (h : pbAt a.ρ j = some (.same b)) : phiM a φ z j = φ b ∧ (phiM a φ z).nl j = φ.nl b := by
  unfold phiM
  simp only [h]
  exact ⟨trivial, trivial⟩
theorem phiM_nil {j : Nat} (h : pbAt a.ρ j = some .nil) : phiM a φ z j = some none ∧ (phiM a φ z).nl j = true := by
  unfold phiM
  simp only [h]
  exact ⟨trivial, trivial⟩
theorem phiM_dead {j : Nat} (h : pbAt a.ρ j = some .dead) : (∀ l, phiM a φ z j ≠ some (some l)) ∧ (phiM a φ z).nl j = false := by
  unfold phiM
  simp only [h]
  refine ⟨fun l hl => ?_, trivial⟩
  split at hl
  · cases hl
  · split at hl <;> cases hl
theorem phiM_zero : phiM a φ z 0 = some none := rfl
theorem phiM_deadN {j : Nat} (h : pbAt a.ρ (j + 1) = some .dead) (hn : φ (j + 1) = none) : phiM a φ z (j + 1) = none := by
  unfold phiM
  simp only [h, hn]
theorem phiM_deadS {j : Nat} (h : pbAt a.ρ (j + 1) = some .dead) (hn : φ (j + 1) ≠ none) : phiM a φ z (j + 1) = some none := by
  cases hp : φ (j + 1) with
  | none => exact absurd hp hn
  | some x =>
    unfold phiM
    simp only [h, hp]
theorem phiM_rows {j b off len k : Nat} (h : pbAt a.ρ j = some (.rows b off len k)) : (∀ l, φ b = some (some l) → phiM a φ z j = some (some ⟨l.b, l.sh + off, l.sz, len, k⟩)) ∧ (φ b = some none → phiM a φ z j = some none) ∧ (φ b = none → phiM a φ z j = none) ∧ (phiM a φ z).nl j = false := by
  unfold phiM
  simp only [h]
  refine ⟨fun l hl => by simp only [hl], fun hd => by simp only [hd], fun hn => by simp only [hn], trivial⟩

theorem sameM_at {j b : Nat} (h : sameM a j b = true) : pbAt a.ρ j = some (.same b) := by
  unfold sameM at h
  split at h
  · rename_i b' hb
    rw [hb, Nat.eq_of_beq_eq_true h]
  · cases h

theorem all2_rel {n : Nat} (ih : ∀ p x v, @mt S1.toSymD g a n p x = true → @VR S1 φ x v → @VR S2 (phiM a φ z) p v) : ∀ {ps xs vs : List Value}, all2 (@mt S1.toSymD g a n) ps xs = true → @VRL S1 φ xs vs → @VRL S2 (phiM a φ z) ps vs
  | [], [], _, _, h => by cases h; exact .nil
  | [], _ :: _, _, h, _ => by cases h
  | _ :: _, [], _, h, _ => by cases h
  | p :: ps, x :: xs, _, h, hv => by
    simp only [all2, Bool.and_eq_true] at h
    cases hv with
    | cons _ y _ ys h1 h2 => exact .cons _ _ _ _ (ih _ _ _ h.1 h1) (all2_rel ih h.2 h2)

theorem mt_rel (H : MatchH S1 S2 a φ g w z) : ∀ (n : Nat) (p x v : Value), @mt S1.toSymD g a n p x = true → @VR S1 φ x v → @VR S2 (phiM a φ z) p v := by
  have hp := @MR.part S1 _ _ _ H.mr
  intro n
  induction n with
  | zero => intro p x v h; cases h
  | succ n ih =>
    intro p x v h hv
    cases p with
    | complex k i m =>
      simp only [mt] at h
      split at h
      · rename_i s hs
        obtain ⟨h1, h2⟩ := peq_den (val := S1.val) h
        obtain ⟨_, h4⟩ := H.val i s hs
        refine @VR.sym S2 _ k i m v ?_
        rw [h4, ← h1]
        exact @VR.denP S1 _ _ _ h2 hv
      · cases h
    | float k i =>
      simp only [mt] at h
      split at h
      · rename_i y hy
        refine @VR.lsym S2 _ k i v ?_
        rw [(H.lst i y hy).2]
        exact fmt_den H h hv
      · cases h
    | chan r =>
      cases r with
      | none => cases h
      | some j =>
        have h : chanM g a j x = true := h
        unfold chanM at h
        split at h
        · rename_i b hb
          split at h
          · rename_i b'
            have := Nat.eq_of_beq_eq_true h
            subst this
            obtain ⟨f1, f2⟩ := phiM_same (φ := φ) (z := z) hb
            cases hv with
            | chan _ cap l hl h2 h3 => exact @VR.chan S2 _ _ _ l (f1.trans hl) h2 h3
            | chnil _ hl => exact @VR.chnil S2 _ _ (f1.trans hl)
            | chdead _ n cap ad hl h2 h3 => exact @VR.chdead S2 _ _ _ _ _ (f1.trans hl) (f2.trans h2) h3
          · cases h
        · rename_i hb
          rw [isNilV_eq h] at hv
          cases hv
          exact @VR.chnil S2 _ _ (phiM_nil hb).1
        · rename_i b off len k hb
          split at h
          · rename_i b' off' sp len' cap
            simp only [Bool.and_eq_true, Bool.not_eq_true'] at h
            obtain ⟨⟨⟨⟨e1, e2⟩, e3⟩, hzz⟩, h⟩ := h
            have e1 := Nat.eq_of_beq_eq_true e1
            have e2 := Nat.eq_of_beq_eq_true e2
            have e3 := Nat.eq_of_beq_eq_true e3
            subst e1 e2 e3
            split at h
            · rename_i c hg
              have hlive : ∃ l, φ b = some (some l) := by
                cases hv with
                | slice _ _ _ _ _ _ l hl => exact ⟨l, hl⟩
                | szero _ _ _ _ l hl => exact ⟨l, hl⟩
                | sdead _ _ _ _ _ _ _ hd => cases @MR.deadB S1 _ _ _ H.mr _ _ hg hd (fun _ _ _ h => by cases h)
              obtain ⟨l, hl⟩ := hlive
              obtain ⟨c', e, b1, b2, b3, b4⟩ := (hp b _ hg).1 l hl
              obtain ⟨cap', rfl, c1, c2⟩ := room_spec hv hl hzz h b3
              exact @VR.chan S2 (phiM a φ z) j cap' ⟨l.b, l.sh + off, l.sz, len, k⟩ ((phiM_rows hb).1 l hl) c1 c2
            · cases h
          · cases h
        · cases h
    | pointer ad =>
      cases ad with
      | none =>
        simp only [mt] at h
        split at h
        · cases hv; exact @VR.pnil S2 _
        · cases h
      | some ad =>
        obtain ⟨j, o, sp⟩ := ad
        cases sp with
        | some s => cases h
        | none =>
          simp only [mt] at h
          split at h
          · rename_i b o'
            rw [Bool.and_eq_true] at h
            have hs := sameM_at h.1
            have := Nat.eq_of_beq_eq_true h.2
            subst this
            obtain ⟨f1, f2⟩ := phiM_same (φ := φ) (z := z) hs
            cases hv with
            | ptr _ _ l hl => exact @VR.ptr S2 _ _ _ l (f1.trans hl)
            | pdead _ _ _ ad hl => exact @VR.pdead S2 _ _ _ _ _ (f1.trans hl)
          · cases h
    | slice ad ln cp =>
      cases ad with
      | none =>
        simp only [mt] at h
        split at h
        · rw [Bool.and_eq_true] at h
          cases hv
          rw [Nat.eq_of_beq_eq_true h.1, Nat.eq_of_beq_eq_true h.2]
          exact @VR.snil S2 _ _ _
        · cases h
      | some ad =>
        obtain ⟨j, o, sp⟩ := ad
        simp only [mt] at h
        split at h
        · rename_i b o' sp' l' c'
          simp only [Bool.and_eq_true] at h
          obtain ⟨⟨⟨⟨h1, h2⟩, h3⟩, h4⟩, h5⟩ := h
          have hs := sameM_at h1
          have h2 := Nat.eq_of_beq_eq_true h2
          have h3 := spEq_eq h3
          have h4 := Nat.eq_of_beq_eq_true h4
          have h5 := Nat.eq_of_beq_eq_true h5
          subst h2 h3 h4 h5
          obtain ⟨f1, f2⟩ := phiM_same (φ := φ) (z := z) hs
          cases hv with
          | slice _ _ _ _ _ cap' l hl q1 q2 q3 q4 => exact @VR.slice S2 _ _ _ _ _ _ cap' l (f1.trans hl) q1 q2 q3 q4
          | sdead _ _ _ _ _ cap' ad hl q1 q2 q3 => exact @VR.sdead S2 _ _ _ _ _ _ cap' ad (f1.trans hl) q1 q2 q3
          | szero _ _ e o2 l hl => exact @VR.szero S2 _ _ _ e o2 l (f1.trans hl)
        · cases h
    | map r =>
      cases r with
      | none =>
        simp only [mt] at h
        split at h
        · cases hv; exact @VR.mnil S2 _
        · cases h
      | some j =>
        simp only [mt] at h
        split at h
        · rename_i b
          obtain ⟨f1, f2⟩ := phiM_same (φ := φ) (z := z) (sameM_at h)
          cases hv with
          | map _ l hl => exact @VR.map S2 _ _ l (f1.trans hl)
          | mdead _ r' hl => exact @VR.mdead S2 _ _ _ (f1.trans hl)
        · cases h
    | bool u =>
      simp only [mt] at h
      split at h
      · cases hv; rw [beq_iff_eq.1 h]; exact @VR.bool S2 _ _
      · cases h
    | int k u =>
      simp only [mt] at h
      split at h
      · simp only [Bool.and_eq_true, decide_eq_true_eq] at h
        cases hv; rw [h.1, h.2]; exact @VR.int S2 _ _ _
      · cases h
    | string u =>
      simp only [mt] at h
      split at h
      · rename_i u'
        cases hv
        have : u = u' := by
          apply ByteArray.ext
          exact Array.ext' (by simpa using h)
        subst this
        exact @VR.string S2 _ _
      · cases h
    | nilFunc =>
      simp only [mt] at h
      split at h
      · cases hv; exact @VR.nilFunc S2 _
      · cases h
    | nilIface =>
      simp only [mt] at h
      split at h
      · cases hv; exact @VR.nilIface S2 _
      · cases h
    | iface t q =>
      simp only [mt] at h
      split at h
      · rename_i u y
        rw [Bool.and_eq_true] at h
        have := Nat.eq_of_beq_eq_true h.1
        subst this
        cases hv with
        | iface _ _ y' hy => exact @VR.iface S2 _ _ _ _ (ih _ _ _ h.2 hy)
      · cases h
    | func fn ps qs =>
      cases fn <;> try (cases h; done)
      rename_i f
      simp only [mt] at h
      split at h
      · rename_i f' xs ys
        simp only [Bool.and_eq_true] at h
        have := Nat.eq_of_beq_eq_true h.1.1
        subst this
        cases hv with
        | func _ _ _ us vs h1 h2 => exact @VR.func S2 _ _ _ _ _ _ (all2_rel ih h.1.2 h1) (all2_rel ih h.2 h2)
      · cases h
    | agg ps =>
      simp only [mt] at h
      split at h
      · cases hv with
        | agg _ ys h1 => exact @VR.agg S2 _ _ _ (all2_rel ih h h1)
      · cases h
    | tuple ps =>
      simp only [mt] at h
      split at h
      · cases hv with
        | tuple _ ys h1 => exact @VR.tuple S2 _ _ _ (all2_rel ih h h1)
      · cases h
end
end Go.Eng
/- What matches a pattern: the blocks, the room, what stays as it is. -/
namespace Go.Eng
open Go.RowKit

theorem natIn_filter {ρ : List PB} {pb : PB} {b : Nat} (h : pb ∈ ρ) (hb : pbId pb = some b) : natIn b (ρ.filterMap pbId) = true := natIn_mem.2 (List.mem_filterMap.2 ⟨pb, h, hb⟩)

theorem pbAt_mem {ρ : List PB} {j : Nat} {pb : PB} {b : Nat} (h : pbAt ρ j = some pb) (hb : pbId pb = some b) : pb ∈ ρ := by
  cases j with
  | zero => simp only [pbAt, Option.some.injEq] at h; rw [← h] at hb; cases hb
  | succ j => exact List.mem_of_getElem? h

theorem dist_at : ∀ {ρ : List PB}, distL (ρ.filterMap pbId) = true → ∀ {i j : Nat} {p q : PB} {b : Nat}, ρ[i]? = some p → ρ[j]? = some q → pbId p = some b → pbId q = some b → i = j
  | [], _, i, j, p, q, b, h, _, _, _ => by cases h
  | r :: ρ, hd, i, j, p, q, b, h1, h2, h3, h4 => by
    have htl : distL (ρ.filterMap pbId) = true := by
      cases hr : pbId r with
      | none => rw [List.filterMap_cons_none hr] at hd; exact hd
      | some c =>
        rw [List.filterMap_cons_some hr] at hd
        simp only [distL, Bool.and_eq_true] at hd
        exact hd.2
    have hout : ∀ q ∈ ρ, ∀ c, pbId r = some c → pbId q ≠ some c := by
      intro q hq c hr hqc
      rw [List.filterMap_cons_some hr] at hd
      simp only [distL, Bool.and_eq_true, Bool.not_eq_true'] at hd
      rw [natIn_filter hq hqc] at hd
      cases hd.1
    cases i with
    | zero =>
      cases j with
      | zero => rfl
      | succ j =>
        simp only [List.getElem?_cons_zero, Option.some.injEq] at h1
        simp only [List.getElem?_cons_succ] at h2
        subst h1
        exact absurd h4 (hout q (List.mem_of_getElem? h2) b h3)
    | succ i =>
      cases j with
      | zero =>
        simp only [List.getElem?_cons_zero, Option.some.injEq] at h2
        simp only [List.getElem?_cons_succ] at h1
        subst h2
        exact absurd h3 (hout p (List.mem_of_getElem? h1) b h4)
      | succ j =>
        simp only [List.getElem?_cons_succ] at h1 h2
        rw [dist_at htl h1 h2 h3 h4]

section
variable {S1 S2 : SymV} {a : Sub} {φ : Phi} {g : Nat → Option LB} {w : World} {z : Nat → Option Obj}

theorem all2_len {f : Value → Value → Bool} : ∀ {ps xs : List Value}, all2 f ps xs = true → ps.length = xs.length
  | [], [], _ => rfl
  | [], _ :: _, h => by cases h
  | _ :: _, [], h => by cases h
  | p :: ps, x :: xs, h => by
    simp only [all2, Bool.and_eq_true] at h
    simp [all2_len h.2]

theorem all2_at {f : Value → Value → Bool} : ∀ {ps xs : List Value}, all2 f ps xs = true → ∀ {i : Nat} {p : Value}, ps[i]? = some p → ∃ x, xs[i]? = some x ∧ f p x = true
  | [], [], _, _, _, hi => by cases hi
  | [], _ :: _, h, _, _, _ => by cases h
  | _ :: _, [], h, _, _, _ => by cases h
  | p :: ps, x :: xs, h, i, q, hi => by
    simp only [all2, Bool.and_eq_true] at h
    cases i with
    | zero => simp at hi; subst hi; exact ⟨x, by simp, h.1⟩
    | succ i => simpa using all2_at h.2 (by simpa using hi)

theorem mts_rel (H : MatchH S1 S2 a φ g w z) {n : Nat} {ps xs vs : List Value} (h : all2 (@mt S1.toSymD g a n) ps xs = true) (hv : @VRL S1 φ xs vs) : @VRL S2 (phiM a φ z) ps vs :=
  all2_rel (fun p x v => mt_rel H n p x v) h hv

theorem ents_at : ∀ {ps xs : List MapEntry}, @ents S1.toSymD g a ps xs = true → ps.length = xs.length ∧ ∀ {i : Nat} {p : MapEntry}, ps[i]? = some p → ∃ x : MapEntry, xs[i]? = some x ∧ p.key = x.key ∧ ub p.key = 0 ∧ p.born = x.born ∧ @mt S1.toSymD g a 7 p.val x.val = true
  | [], [], _ => ⟨rfl, fun h => by cases h⟩
  | [], _ :: _, h => by cases h
  | _ :: _, [], h => by cases h
  | p :: ps, x :: xs, h => by
    simp only [ents, Bool.and_eq_true] at h
    obtain ⟨⟨⟨⟨h1, h2⟩, h3⟩, h4⟩, h5⟩ := h
    obtain ⟨i1, i2⟩ := ents_at h5
    refine ⟨by simp [i1], fun {i q} hi => ?_⟩
    cases i with
    | zero => simp at hi; subst hi; exact ⟨x, by simp, veq_eq 7 _ _ h1, Nat.eq_of_beq_eq_true h2, Nat.eq_of_beq_eq_true h3, h4⟩
    | succ i => simpa using i2 (by simpa using hi)

theorem bmts_at : ∀ {ρ : List PB} {pm : List LB}, @bmts S1.toSymD g a ρ pm = true → ρ.length = pm.length ∧ ∀ {i : Nat} {pb : PB}, ρ[i]? = some pb → ∃ p, pm[i]? = some p ∧ @bmt S1.toSymD g a pb p = true
  | [], [], _ => ⟨rfl, fun h => by cases h⟩
  | [], _ :: _, h => by cases h
  | _ :: _, [], h => by cases h
  | pb :: ρ, p :: pm, h => by
    simp only [bmts, Bool.and_eq_true] at h
    obtain ⟨i1, i2⟩ := bmts_at h.2
    refine ⟨by simp [i1], fun {i q} hi => ?_⟩
    cases i with
    | zero => simp at hi; subst hi; exact ⟨p, by simp, h.1⟩
    | succ i => simpa using i2 (by simpa using hi)

theorem br_same (H : MatchH S1 S2 a φ g w z) {b : Nat} {l : Loc} {p G : LB} (hg : g b = some G) (hb : @BR S1 φ G l w) (h : @bmt S1.toSymD g a (.same b) p = true) : @BR S2 (phiM a φ z) p l w := by
  cases p with
  | cells ps =>
    simp only [bmt, hg] at h
    cases G <;> simp only at h <;> try (cases h; done)
    rename_i xs
    obtain ⟨c', e, h1, h2, h3, h4⟩ := hb
    refine ⟨c', e, h1, h2, by rw [all2_len h]; exact h3, fun i v hv => ?_⟩
    obtain ⟨x, q1, q2⟩ := all2_at h hv
    obtain ⟨v', q3, q4⟩ := h4 i x q1
    exact ⟨v', q3, mt_rel H 7 _ _ _ q2 q4⟩
  | ro ps =>
    simp only [bmt, hg] at h
    cases G <;> simp only at h <;> try (cases h; done)
    rename_i xs
    obtain ⟨c', e, fz, h1, h2, h3, h4⟩ := hb
    refine ⟨c', e, fz, h1, h2, by rw [all2_len h]; exact h3, fun i v hv => ?_⟩
    obtain ⟨x, q1, q2⟩ := all2_at h hv
    obtain ⟨v', q3, q4⟩ := h4 i x q1
    exact ⟨v', q3, mt_rel H 7 _ _ _ q2 q4⟩
  | map ps ck =>
    simp only [bmt, hg] at h
    cases G <;> simp only at h <;> try (cases h; done)
    rename_i xs ck'
    rw [Bool.and_eq_true] at h
    have := Nat.eq_of_beq_eq_true h.1
    subst this
    obtain ⟨es', h1, h2⟩ := hb
    obtain ⟨e1, e2⟩ := ents_at (S1 := S1) h.2
    refine ⟨es', h1, @ERow.mk S2 _ _ _ (e1.trans (@ERow.len S1 _ _ _ h2)) fun i e he => ?_⟩
    obtain ⟨x, q1, q2, q3, q4, q5⟩ := e2 he
    obtain ⟨e', r1, r2, r3, r4, r5⟩ := @ERow.at_ S1 _ _ _ h2 i x q1
    exact ⟨e', r1, r2.trans q2.symm, q3, r4.trans q4.symm, mt_rel H 7 _ _ _ q5 r5⟩
  | lst ro k i =>
    simp only [bmt, hg] at h
    cases G <;> simp only at h <;> try (cases h; done)
    rename_i ro' k' s
    simp only [Bool.and_eq_true] at h
    obtain ⟨⟨h1, h2⟩, h3⟩ := h
    have h1 : ro = ro' := by unfold bq at h1; exact beq_iff_eq.1 h1
    have h2 := Nat.eq_of_beq_eq_true h2
    subst h1 h2
    split at h3
    case h_2 => cases h3
    rename_i y hy
    obtain ⟨rs, q1, q2⟩ := @BR.lstAt S1 _ _ _ _ _ _ hb
    obtain ⟨c, e, m, r1, r2, r3, r4, r5, r6, r7⟩ := q2
    have hl : S2.lst i = lv rs := by
      rw [(H.lst i y hy).2, ← (leqx_den (val := S1.val) (lst := S1.lst) h3).1]
      exact q1
    exact @LstAt.br S2 _ _ _ _ _ _ _ hl ⟨c, e, m, r1, r2, r3, r4, r5, r6, @RowsIn.mono S1 _ _ H.z1 _ _ _ _ r7⟩
  | dead => cases h

theorem nil_same (H : MatchH S1 S2 a φ g w z) {b k s : Nat} {ro : Bool} {p : LB} (hg : g b = some (.lst ro k s)) (hs : S1.lst s = .slice none 0 0) (h : @bmt S1.toSymD g a (.same b) p = true) : ∃ ro k i, p = .lst ro k i ∧ S2.lst i = .slice none 0 0 := by
  cases p with
  | lst ro' k' i =>
    refine ⟨_, _, _, rfl, ?_⟩
    simp only [bmt, hg, Bool.and_eq_true] at h
    obtain ⟨_, h3⟩ := h
    split at h3
    case h_2 => cases h3
    rename_i y hy
    rw [(H.lst i y hy).2, ← (leqx_den (val := S1.val) (lst := S1.lst) h3).1]
    exact hs
  | _ => simp [bmt, hg] at h

theorem patM_at {pm : List LB} (hok : patOK pm = true) {j : Nat} {p : LB} (h : pm[j]? = some p) : (patM pm).get (j + 1) = some p := by
  have hj : j < pm.length := (List.getElem?_eq_some_iff.1 h).1
  unfold patOK at hok
  rw [Bool.and_eq_true] at hok
  rw [patM_get (Nat.le_of_ble_eq_true hok.1) (show j + 1 < nC pm by unfold nC; omega)]
  simp [List.getD, h]

theorem phiM_none {id : Nat} (h : pbAt a.ρ id = none) : phiM a φ z id = none := by
  unfold phiM
  simp only [h]

theorem live0 {id : Nat} {l : Loc} (hl : phiM a φ z id = some (some l)) : ∃ j pb b l0, id = j + 1 ∧ a.ρ[j]? = some pb ∧ pbId pb = some b ∧ φ b = some (some l0) ∧ l0.b = l.b ∧ ((pb = .same b ∧ l0 = l) ∨ ∃ off len k, pb = .rows b off len k ∧ l = ⟨l0.b, l0.sh + off, l0.sz, len, k⟩) := by
  cases hpb : pbAt a.ρ id with
  | none => rw [phiM_none hpb] at hl; cases hl
  | some pb =>
    have hj : ∀ b, pbId pb = some b → ∃ j, id = j + 1 ∧ a.ρ[j]? = some pb := fun b hb => by
      cases id with
      | zero => simp only [pbAt, Option.some.injEq] at hpb; rw [← hpb] at hb; cases hb
      | succ j => exact ⟨j, rfl, hpb⟩
    cases pb with
    | same b =>
      obtain ⟨j, rfl, hj'⟩ := hj b rfl
      rw [(phiM_same hpb).1] at hl
      exact ⟨j, _, b, l, rfl, hj', rfl, hl, rfl, .inl ⟨rfl, rfl⟩⟩
    | nil => rw [(phiM_nil hpb).1] at hl; cases hl
    | dead => exact absurd hl ((phiM_dead hpb).1 l)
    | rows b off len k =>
      obtain ⟨j, rfl, hj'⟩ := hj b rfl
      obtain ⟨p1, p2, p3, _⟩ := phiM_rows (φ := φ) (z := z) hpb
      cases hb : φ b with
      | none => rw [p3 hb] at hl; cases hl
      | some o =>
        cases o with
        | none => rw [p2 hb] at hl; cases hl
        | some l0 =>
          rw [p1 l0 hb] at hl
          cases hl
          exact ⟨j, _, b, l0, rfl, hj', rfl, hb, rfl, .inr ⟨off, len, k, rfl, rfl⟩⟩

theorem rows_bmt {b off len k : Nat} {p : LB} (h : @bmt S1.toSymD g a (.rows b off len k) p = true) : ∃ i y c, p = .lst false k i ∧ a.ls[i]? = some y ∧ g b = some (.cells c) ∧ off + len * k ≤ c.length ∧ @rowsAre S1.toSymD c off len k y.1 = true := by
  cases p with
  | lst ro k' i =>
    cases ro with
    | true => cases h
    | false =>
      simp only [bmt] at h
      split at h
      case h_2 => cases h
      rename_i y hy
      rw [Bool.and_eq_true] at h
      have := Nat.eq_of_beq_eq_true h.1
      subst this
      have h := h.2
      split at h
      case h_2 => cases h
      rename_i c hc
      rw [Bool.and_eq_true] at h
      exact ⟨i, y, c, rfl, hy, hc, Nat.le_of_ble_eq_true h.1, h.2⟩
  | _ => cases h

theorem br_rows (H : MatchH S1 S2 a φ g w z) {b off len k : Nat} {l0 : Loc} {p G : LB} (hg : g b = some G) (hb : @BR S1 φ G l0 w) (h : @bmt S1.toSymD g a (.rows b off len k) p = true) : @BR S2 (phiM a φ z) p ⟨l0.b, l0.sh + off, l0.sz, len, k⟩ w := by
  obtain ⟨i, y, c, rfl, hy, hc, hr, h⟩ := rows_bmt (S1 := S1) h
  rw [hg] at hc
  cases hc
  obtain ⟨c', e, m, rs, r1, r2, r3, r4, r5, r6, r7, r8⟩ := rows_in (@BR.rd S1 _ _ _ _ (.inl hb)) h
  obtain ⟨c2, e2, s1, s2, s3, s4⟩ := hb
  rw [s1] at r1
  cases r1
  refine @LstAt.br S2 _ _ _ _ _ _ rs ?_ ⟨_, _, _, s1, fun _ => rfl, s2, r7, rfl, ⟨r5, ?_⟩, @RowsIn.mono S1 _ _ H.z1 _ _ _ _ r8⟩
  · rw [(H.lst i y hy).2]; exact r6
  · show l0.sh + off + len * k ≤ l0.sz
    omega

theorem dead_same {b : Nat} {p : LB} (hg : g b = some .dead) (h : @bmt S1.toSymD g a (.same b) p = true) : False := by
  cases p <;> simp only [bmt, hg] at h <;> cases h

theorem nil_bmt (H : MatchH S1 S2 a φ g w z) {p : LB} (h : @bmt S1.toSymD g a .nil p = true) : ∃ ro k i, p = .lst ro k i ∧ S2.lst i = .slice none 0 0 := by
  cases p with
  | lst ro k i =>
    simp only [bmt] at h
    split at h
    case h_2 => cases h
    rename_i y hy
    refine ⟨ro, k, i, rfl, ?_⟩
    rw [(H.lst i y hy).2, isNilV_eq h]
    rfl
  | _ => cases h

/-- what matches, seen as the pattern -/
theorem mem_rel (H : MatchH S1 S2 a φ g w z) {pm : List LB} (hok : patOK pm = true) (h : @bmts S1.toSymD g a a.ρ pm = true) (hd : distL a.ids = true) : @MR S2 (phiM a φ z) (patM pm).get w ∧ Bd (phiM a φ z) (nC pm) := by
  obtain ⟨hlen, hat⟩ := bmts_at (S1 := S1) h
  have hp := @MR.part S1 _ _ _ H.mr
  refine ⟨⟨fun id l hl => ?_, fun id hid hn => ?_, fun id hid hn => ?_, fun id jd l l' h1 h2 h3 => ?_, ?_⟩, fun id hid => ?_⟩
  · obtain ⟨j, pb, b, l0, rfl, hj, hb, hφ, _, hc⟩ := live0 hl
    obtain ⟨p, hpj, hm⟩ := hat hj
    refine ⟨p, patM_at hok hpj, ?_⟩
    obtain ⟨G, hg, hbr⟩ := @MR.live S1 _ _ _ H.mr b l0 hφ
    rcases hc with ⟨rfl, rfl⟩ | ⟨off, len, k, rfl, rfl⟩
    · exact br_same H hg hbr hm
    · exact br_rows H hg hbr hm
  · cases hpb : pbAt a.ρ id with
    | none => rw [phiM_none hpb] at hid; cases hid
    | some pb =>
      cases id with
      | zero =>
        unfold patOK at hok
        rw [Bool.and_eq_true] at hok
        rw [patM_get (Nat.le_of_ble_eq_true hok.1) (show 0 < nC pm by unfold nC; omega)]
      | succ j =>
        have hj : a.ρ[j]? = some pb := hpb
        obtain ⟨p, hpj, hm⟩ := hat hj
        rw [patM_at hok hpj]
        cases pb with
        | same b =>
          obtain ⟨q1, q2⟩ := phiM_same (φ := φ) (z := z) hpb
          rw [q1] at hid
          rw [q2] at hn
          exact (dead_same (S1 := S1) (@MR.dead S1 _ _ _ H.mr b hid hn) hm).elim
        | nil => rw [(phiM_nil hpb).2] at hn; cases hn
        | dead => cases p <;> first | rfl | cases hm
        | rows b off len k =>
          obtain ⟨p1, p2, p3, _⟩ := phiM_rows (φ := φ) (z := z) hpb
          obtain ⟨i, y, c, rfl, hy, hc, _⟩ := rows_bmt (S1 := S1) hm
          exfalso
          have hb : φ b = some none := by
            cases hb : φ b with
            | none => rw [p3 hb] at hid; cases hid
            | some o =>
              cases o with
              | none => rfl
              | some l0 => rw [p1 l0 hb] at hid; cases hid
          cases hnl : φ.nl b with
          | false => rw [@MR.dead S1 _ _ _ H.mr b hb hnl] at hc; cases hc
          | true => obtain ⟨_, _, _, hg', _⟩ := @MR.nils S1 _ _ _ H.mr b hb hnl; rw [hg'] at hc; cases hc
  · cases hpb : pbAt a.ρ id with
    | none => rw [phiM_none hpb] at hid; cases hid
    | some pb =>
      cases id with
      | zero => cases hn
      | succ j =>
        have hj : a.ρ[j]? = some pb := hpb
        obtain ⟨p, hpj, hm⟩ := hat hj
        rw [patM_at hok hpj]
        cases pb with
        | same b =>
          obtain ⟨q1, q2⟩ := phiM_same (φ := φ) (z := z) hpb
          rw [q1] at hid
          rw [q2] at hn
          obtain ⟨ro, k, s, hg, hs⟩ := @MR.nils S1 _ _ _ H.mr b hid hn
          obtain ⟨ro', k', i, rfl, h2⟩ := nil_same H hg hs hm
          exact ⟨ro', k', i, rfl, h2⟩
        | nil =>
          obtain ⟨ro', k', i, rfl, h2⟩ := nil_bmt H hm
          exact ⟨ro', k', i, rfl, h2⟩
        | dead => rw [(phiM_dead hpb).2] at hn; cases hn
        | rows b off len k => rw [(phiM_rows (φ := φ) (z := z) hpb).2.2.2] at hn; cases hn
  · obtain ⟨j, pb, b, l0, rfl, hj, hb, hφ, he, _⟩ := live0 h1
    obtain ⟨j', pb', b', l0', rfl, hj', hb', hφ', he', _⟩ := live0 h2
    have := @MR.inj S1 _ _ _ H.mr b b' l0 l0' hφ hφ' (by rw [he, he', h3])
    subst this
    rw [dist_at hd hj hj' hb hb']
  · refine ⟨fun b o hb => H.z2 b o hb, fun b o hb id l hl => ?_⟩
    obtain ⟨j, pb, b', l0, rfl, hj, hpb, hφ, he, _⟩ := live0 hl
    rw [← he]
    exact H.z3 b o hb b' l0 (natIn_filter (List.mem_of_getElem? hj) hpb) hφ
  · cases hpb : pbAt a.ρ id with
    | none => exact absurd (phiM_none hpb) hid
    | some pb =>
      cases id with
      | zero => unfold nC; omega
      | succ j =>
        have hj : a.ρ[j]? = some pb := hpb
        have := (List.getElem?_eq_some_iff.1 hj).1
        unfold nC
        omega
end
end Go.Eng
/- From the blocks of a run to those of a pattern: what stays, what is frozen; contracts. -/
namespace Go.Eng
open Go.RowKit

/-- from (φ, w) to (φ', w'), as far as the blocks below n go -/
structure SimN (n : Nat) (φ φ' : Phi) (w w' : World) : Prop where
  ids : ∀ id, id < n → φ id ≠ none → φ' id = φ id ∨ φ' id = some none
  nl : ∀ id, id < n → φ id ≠ none → φ' id = some none → φ'.nl id = true → φ id = some none ∧ φ.nl id = true
  fzE : ∀ b o, φ.fz b = some o → φ'.fz b = some o
  new : ∀ id l, φ' id = some (some l) → (∃ jd l0, φ jd = some (some l0) ∧ l0.b = l.b) ∨ w.heap.size ≤ l.b
  un : ∀ id, id < n → φ id = none → φ' id = none
  fz : ∀ b o, φ'.fz b = some o → φ.fz b = some o ∨ (∃ id l, φ id = some (some l) ∧ l.b = b) ∨ w.heap.size ≤ b
  fr : Fr φ w w'

theorem SimN.refl (n : Nat) (φ : Phi) (w : World) : SimN n φ φ w w :=
  ⟨fun _ _ _ => .inl rfl, fun _ _ _ h h' => ⟨h, h'⟩, fun _ _ h => h, fun id l h => .inl ⟨id, l, h, rfl⟩, fun _ _ h => h, fun _ _ h => .inl h, @Fr.refl noSymV φ w⟩

theorem SimN.of {n m : Nat} {φ φ' : Phi} {w w' : World} (hn : n ≤ m) (h : Sim m φ φ' w w') : SimN n φ φ' w w' :=
  ⟨fun id _ h0 => h.ext.ids id h0, fun id _ h0 h1 h2 => h.ext.nl id h0 h1 h2, h.ext.fz, h.new, fun id hid h0 => h.un id (by omega) h0, h.fz, h.fr⟩

theorem SimN.sim {n : Nat} {φ φ' : Phi} {w w' : World} (hb : Bd φ n) (h : SimN n φ φ' w w') : Sim n φ φ' w w' :=
  ⟨⟨fun id h0 => h.ids id (hb id h0) h0, h.fzE, fun id h0 h1 h2 => h.nl id (hb id h0) h0 h1 h2⟩, h.new, h.un, h.fz, h.fr⟩

theorem SimN.trans {n : Nat} {φ φ' φ'' : Phi} {w w' w'' : World} (h : SimN n φ φ' w w') (h' : SimN n φ' φ'' w' w'') : SimN n φ φ'' w w'' := by
  refine ⟨fun id hid h0 => ?_, fun id hid h0 h2 h3 => ?_, fun b o hb => h'.fzE b o (h.fzE b o hb), fun id l hl => ?_, fun id hid h0 => h'.un id hid (h.un id hid h0), fun b o hb => ?_,
    ⟨h'.fr.os.trans h.fr.os, h'.fr.tape.trans h.fr.tape, h'.fr.output.trans h.fr.output, Nat.le_trans h.fr.size h'.fr.size, fun b hb hne => ?_⟩⟩
  · rcases h.ids id hid h0 with h1 | h1
    · rcases h'.ids id hid (by rw [h1]; exact h0) with h2 | h2
      · exact .inl (h2.trans h1)
      · exact .inr h2
    · rcases h'.ids id hid (by rw [h1]; simp) with h2 | h2
      · exact .inr (h2.trans h1)
      · exact .inr h2
  · have h1 : φ' id ≠ none := by
      rcases h.ids id hid h0 with h1 | h1
      · rw [h1]; exact h0
      · rw [h1]; simp
    obtain ⟨q1, q2⟩ := h'.nl id hid h1 h2 h3
    exact h.nl id hid h0 q1 q2
  · rcases h'.new id l hl with ⟨jd, l0, h1, h2⟩ | h1
    · rcases h.new jd l0 h1 with ⟨kd, l1, h3, h4⟩ | h3
      · exact .inl ⟨kd, l1, h3, h4.trans h2⟩
      · exact .inr (by omega)
    · exact .inr (Nat.le_trans h.fr.size h1)
  · rcases h'.fz b o hb with h1 | ⟨id, l, h1, h2⟩ | h1
    · exact h.fz b o h1
    · rcases h.new id l h1 with ⟨jd, l0, h3, h4⟩ | h3
      · exact .inr (.inl ⟨jd, l0, h3, h4.trans h2⟩)
      · exact .inr (.inr (by omega))
    · exact .inr (.inr (Nat.le_trans h.fr.size h1))
  · refine (h'.fr.same b (Nat.lt_of_lt_of_le hb h.fr.size) fun id l hl he => ?_).trans (h.fr.same b hb hne)
    rcases h.new id l hl with ⟨jd, l0, h1, h2⟩ | h1
    · exact hne jd l0 h1 (h2.trans he)
    · omega

open Classical in
/-- what stays as it is from here on -/
noncomputable def zM (a : Sub) (φ : Phi) (w : World) : Nat → Option Obj := fun b => match φ.fz b with
  | some o => some o
  | none => if (∃ id l, a.frz id = true ∧ φ id = some (some l) ∧ l.b = b ∧ ∃ c e m, w.heap[b]? = some (.cells c e m)) then w.heap[b]? else none

section
variable {S1 S2 : SymV} {a : Sub} {φ : Phi} {g : Nat → Option LB} {w : World}

theorem zM_fz {b : Nat} {o : Obj} (h : φ.fz b = some o) : zM a φ w b = some o := by
  unfold zM
  rw [h]

theorem zM_cases {b : Nat} {o : Obj} (h : zM a φ w b = some o) : φ.fz b = some o ∨ ∃ id l, a.frz id = true ∧ φ id = some (some l) ∧ l.b = b ∧ (∃ c e m, w.heap[b]? = some (.cells c e m)) ∧ w.heap[b]? = some o := by
  unfold zM at h
  split at h
  · rename_i o' ho
    rw [ho]
    exact .inl h
  · split at h
    · rename_i hc
      obtain ⟨id, l, h1, h2, h3, h4⟩ := hc
      exact .inr ⟨id, l, h1, h2, h3, h4, h⟩
    · cases h

theorem matchH (hm : @MR S1 φ g w) (hv : ∀ i s, a.ss[i]? = some s → isScP s = true ∧ S2.val i = den S1.val s) (hl : ∀ i y, a.ls[i]? = some y → isLxP y.1 = true ∧ S2.lst i = denX S1.val S1.lst y.1) : MatchH S1 S2 a φ g w (zM a φ w) := by
  have hpin := @MR.pin S1 _ _ _ hm
  refine ⟨hm, hv, hl, fun b o hb => zM_fz hb, fun b o hb => ?_, fun b o hb id l hid hl he => ?_, fun id l hf hl hc => ?_⟩
  · rcases zM_cases hb with h1 | ⟨id, l, h1, h2, h3, ⟨c, e, m, h4⟩, h5⟩
    · exact hpin.at_ b o h1
    · rw [h4] at h5
      cases h5
      exact ⟨h4, c, e, m, rfl⟩
  · rcases zM_cases hb with h1 | ⟨id', l', h1, h2, h3, _⟩
    · exact hpin.off b o h1 id l hl he
    · have := @MR.inj S1 _ _ _ hm id id' l l' hl h2 (he.trans h3.symm)
      subst this
      unfold Sub.frz at h1
      rw [hid] at h1
      simp at h1
  · unfold zM
    cases hz : φ.fz l.b with
    | some o => exact absurd rfl (hpin.off l.b o hz id l hl)
    | none => rw [if_pos ⟨id, l, hf, hl, rfl, hc⟩]

/-- the blocks that a function was given keep their numbers, or are gone -/
def keepE : Nat → Nat → List PB → Bool
  | _, 0, _ => true
  | _, _ + 1, [] => false
  | i, k + 1, pb :: r => (match pb with
    | .same b => Nat.beq b i
    | .dead => true
    | _ => false) && keepE (Nat.succ i) k r

theorem keepE_at : ∀ {k i : Nat} {ρ : List PB}, keepE i k ρ = true → ∀ j, j < k → ρ[j]? = some (.same (i + j)) ∨ ρ[j]? = some .dead
  | 0, _, _, _, j, hj => by omega
  | k + 1, i, [], h, _, _ => by cases h
  | k + 1, i, pb :: r, h, j, hj => by
    simp only [keepE, Bool.and_eq_true] at h
    cases j with
    | zero =>
      have h1 := h.1
      cases pb with
      | same b => rw [Nat.eq_of_beq_eq_true h1]; exact .inl (by simp)
      | dead => exact .inr (by simp)
      | _ => cases h1
    | succ j =>
      have := keepE_at h.2 j (by omega)
      simp only [List.getElem?_cons_succ]
      rw [show i + (j + 1) = Nat.succ i + j by omega]
      exact this

theorem simM {k : Nat} (h0 : φ 0 ≠ none) (hk : keepE 1 k a.ρ = true) : SimN (k + 1) φ (phiM a φ (zM a φ w)) w w := by
  have hat : ∀ j, j < k → pbAt a.ρ (j + 1) = some (.same (j + 1)) ∨ pbAt a.ρ (j + 1) = some .dead := fun j hj => by
    have := keepE_at hk j hj
    rw [Nat.add_comm 1 j] at this
    exact this
  refine ⟨fun id hid hn => ?_, fun id hid hn h1 h2 => ?_, fun b o hb => zM_fz hb, fun id l hl => ?_, fun id hid hn => ?_, fun b o hb => ?_, @Fr.refl noSymV φ w⟩
  · cases id with
    | zero => exact .inr phiM_zero
    | succ j =>
      rcases hat j (by omega) with h1 | h1
      · exact .inl (phiM_same h1).1
      · exact .inr (phiM_deadS h1 hn)
  · cases id with
    | zero => cases h2
    | succ j =>
      rcases hat j (by omega) with q | q
      · obtain ⟨p1, p2⟩ := phiM_same (φ := φ) (z := zM a φ w) q
        exact ⟨p1.symm.trans h1, p2.symm.trans h2⟩
      · rw [(phiM_dead q).2] at h2; cases h2
  · obtain ⟨j, pb, b, l0, rfl, hj, hb, hφ, he, _⟩ := live0 hl
    exact .inl ⟨b, l0, hφ, he⟩
  · cases id with
    | zero => exact absurd hn h0
    | succ j =>
      rcases hat j (by omega) with q | q
      · exact (phiM_same q).1.trans hn
      · exact phiM_deadN q hn
  · rcases zM_cases hb with h1 | ⟨id, l, h1, h2, h3, _⟩
    · exact .inl h1
    · exact .inr (.inl ⟨id, l, h2, h3⟩)
end

/-- values and blocks with symbols: ns scalars, nl lists -/
structure Pat where
  vs : List Value
  mem : List LB
  ns : Nat
  nl : Nat

/-- what the symbols stand for -/
def Agrees (S : SymV) (ss ls : List Value) : Prop := (∀ i v, ss[i]? = some v → S.val i = v) ∧ ∀ i v, ls[i]? = some v → S.lst i = v

/-- rows of scalars -/
def flatV : Value → Bool
  | .tuple rs => match aggs rs.toList with
    | some rs => rs.all fun r => r.all isOneV
    | none => false
  | .slice none 0 0 => true
  | _ => false

def bL (p : Pat) (ss ls : List Value) : Bool := Nat.beq ss.length p.ns && Nat.beq ls.length p.nl && ss.all isOneV

/-- may a pattern's value be told in a run's symbols? -/
def inK (k j : Nat) : Bool := Nat.blt 0 j && Nat.ble j k
def okP (ns nl k : Nat) (fl : Bool) : Nat → Value → Bool
  | 0, _ => false
  | n + 1, v => match v with
    | .complex _ i _ => Nat.blt i ns
    | .float _ i => fl && Nat.blt i nl
    | .chan (some j) => inK k j
    | .pointer (some ⟨j, _, sp⟩) => inK k j && (match sp with
      | none => true
      | some _ => false)
    | .slice (some ⟨j, _, _⟩) _ _ => inK k j
    | .map (some j) => inK k j
    | .func _ xs ys => xs.toList.all (okP ns nl k fl n) && ys.toList.all (okP ns nl k fl n)
    | .iface _ x => okP ns nl k fl n x
    | .agg xs => xs.toList.all (okP ns nl k fl n)
    | .tuple xs => xs.toList.all (okP ns nl k fl n)
    | _ => true
def okPB (ns nl k : Nat) (fl : Bool) : LB → Bool
  | .cells c => c.all (okP ns nl k fl 7)
  | .ro c => c.all (okP ns nl k fl 7)
  | .map es _ => es.all fun e => okP ns nl k fl 7 e.val
  | .lst _ _ i => Nat.blt i nl
  | .dead => true
def Pat.okR (p : Pat) (fl : Bool) : Bool := okP p.ns p.nl p.mem.length fl 7 (ltuple p.vs) && p.mem.all (okPB p.ns p.nl p.mem.length fl)

def nthV (vs : List Value) (d : Value) (i : Nat) : Value := match vs[i]? with
  | some v => v
  | none => d
theorem nthV_at {vs : List Value} {d v : Value} {i : Nat} (h : vs[i]? = some v) : nthV vs d i = v := by
  unfold nthV
  rw [h]

/-- symbols that stand for what lists tell -/
@[reducible] def symL (ss ls : List Value) (one : ss.all isOneV = true) : SymV :=
  { tab := [], ltab := [], ptr := fun _ => none, val := nthV ss (.int .i64 0), lst := nthV ls (.slice none 0 0),
    one := by
      intro n
      unfold nthV
      split
      · rename_i v hv
        exact List.all_eq_true.1 one v (List.mem_of_getElem? hv)
      · rfl,
    ok := (fun _ h => by cases h), lok := (fun _ h => by cases h), ptrOK := (fun _ _ h => by cases h) }

theorem symL_agrees {ss ls : List Value} {one : ss.all isOneV = true} : Agrees (symL ss ls one) ss ls := ⟨fun _ _ h => nthV_at h, fun _ _ h => nthV_at h⟩

/-- how a call ends: it returns, or panics -/
def endV (pan : Bool) (v : Value) : Ending := bif pan then .panicked [{ v := v, recovered := false }] else .returned v
def EPost [SymV] (pan : Bool) (m m' : LMem) (v : Value) (φ : Phi) (w : World) (e : Ending) (w' : World) : Prop :=
  ∃ v' φ', e = endV pan v' ∧ Sim m.next φ φ' w w' ∧ VR φ' v v' ∧ MR φ' m'.get w' ∧ Bd φ' m'.next

/-- what a call gives -/
def CtrOK (P : Program) (g : FuncId) (pre post : Pat) (pan : Bool) (ss ls ss' ls' : List Value) : Prop :=
  ∀ (one : ss.all isOneV = true) (φ : Phi) (w : World) (args : List Value), @MR (symL ss ls one) φ (patM pre.mem).get w → Bd φ (nC pre.mem) → φ 0 = some none → @VRL (symL ss ls one) φ pre.vs args →
    Calls P g ⟨args⟩ w fun e w' => ∃ v, e = endV pan v ∧ ∀ S' : SymV, Agrees S' ss' ls' → ∃ φ', @VR S' φ' (ltuple post.vs) v ∧ @MR S' φ' (patM post.mem).get w' ∧ Bd φ' (nC post.mem) ∧ Sim (nC pre.mem) φ φ' w w'

/-- a function's contract -/
structure Ctr (P : Program) where
  g : FuncId
  pre : Pat
  post : Pat
  flat : Bool
  pan : Bool
  F : List Value → List Value → Option (List Value × List Value)
  wf : (patOK pre.mem && patOK post.mem && Nat.ble pre.mem.length post.mem.length && post.okR true) = true
  ok : ∀ ss ls ss' ls', bL pre ss ls = true → F ss ls = some (ss', ls') → bL post ss' ls' = true ∧ (flat = true → ls'.all flatV = true) ∧ CtrOK P g pre post pan ss ls ss' ls'
end Go.Eng
