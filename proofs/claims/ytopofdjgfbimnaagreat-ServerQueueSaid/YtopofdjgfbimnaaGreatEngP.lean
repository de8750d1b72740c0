/- A region that draws its order: each step, the end, the whole. -/
import Derived.Test.YtopofdjgfbimnaaGreatEngO
namespace Go.Eng
variable [SymV] [SymT]
section
variable {P : Program} {X : ExtT} {call : CallT}
variable {ms ord : List Nat} {O : Nat → Oper} {F : Nat → LF} {M C : Nat → LMem} {V : Nat → Value} {H : Nat → List (Nat × LMem)}
variable {φ0 φ : Phi} {w0 w : World} {a0 a : Act} {listed : Array Bool} {p : Nat} {ops : Array Oper} {j q : Nat}

/-- all that the region's run has fixed -/
structure Ctx (P : Program) (X : ExtT) (call : CallT) (ops : Array Oper) (ms ord : List Nat) (O : Nat → Oper) (F : Nat → LF) (M C : Nat → LMem) (V : Nat → Value) (H : Nat → List (Nat × LMem)) : Prop where
  hP : POK P X
  hc : CallSound P call
  hG : RegOK ops.toList ms ord
  hms : ms = masks ops.toList []
  hR : DRun P X call ops.toList ms ord O F M C V H
  hn : LFok (F 0)
  hw : WF (M 0)
  hC : C 0 = M 0

/-- positions between p and q without an effect -/
theorem mrp_same (c : Ctx P X call ops ms ord O F M C V H) (hI : DInv P ops.toList ord O F M V φ0 w0 a0 listed a w p φ) (hq : q ≤ ord.length) (hpq : p ≤ q) (hne : ∀ q', p ≤ q' → q' < q → ¬ isE ops.toList O F q') : MRp φ (M q).get w := by
  intro id b hb
  obtain ⟨hwq, hmono⟩ := run_wf c.hP c.hc c.hR c.hw q hq
  have hbt := mem_between c.hP c.hc c.hR c.hw q hpq hq hne
  refine ⟨fun l hl => ?_, fun hd => ?_⟩
  · rcases hI.live id l hl with ⟨h1, b', h2, h3⟩ | ⟨q', h1, h2, h3, h4, b', h5, h6⟩
    · rw [hbt id h1, h2] at hb; cases hb; exact h3
    · have hq'n := sel_lt h2
      obtain ⟨i, hi⟩ := ord_at (ord := ord) hq'n
      obtain ⟨hwq', _⟩ := run_wf c.hP c.hc c.hR c.hw q' (by omega)
      obtain ⟨_, _, _, k3, _⟩ := alc_at c.hR hi hwq' h3
      rcases Nat.lt_or_ge q' q with hlt | hge
      · have := mem_between c.hP c.hc c.hR c.hw (p := q' + 1) q (by omega) hq (fun x hx hx' => hne x (by omega) hx') id (by omega)
        rw [this, h5] at hb; cases hb; exact h6
      · obtain ⟨_, hm'⟩ := run_wf c.hP c.hc c.hR c.hw q' (by omega)
        have := hm' q hge
        rw [LMem.get_none (by omega)] at hb; cases hb
  · obtain ⟨h1, h2⟩ := hI.dead id hd
    rw [hbt id h1, h2] at hb; cases hb; rfl

/-- the first effect at or behind p and before q -/
theorem first_eff (O : Nat → Oper) (F : Nat → LF) (L : List Oper) (p : Nat) : ∀ q, p ≤ q → (∀ q', p ≤ q' → q' < q → ¬ isE L O F q') ∨ ∃ e, p ≤ e ∧ e < q ∧ isE L O F e ∧ ∀ q', p ≤ q' → q' < e → ¬ isE L O F q' := by
  have _s := SymT.tab
  intro q
  induction q with
  | zero => intro h; exact .inl fun q' _ h' => by omega
  | succ q ih =>
    intro h
    by_cases he : p = q + 1
    · exact .inl fun q' h1 h2 => by omega
    · rcases ih (by omega) with h1 | ⟨e, h1, h2, h3, h4⟩
      · by_cases hq : isE L O F q
        · exact .inr ⟨q, by omega, by omega, hq, h1⟩
        · refine .inl fun q' ha hb => ?_
          by_cases hqq : q' = q
          · rw [hqq]; exact hq
          · exact h1 q' ha (by omega)
      · exact .inr ⟨e, h1, by omega, h3, h4⟩

/-- the invariant where nothing but a temporary changes -/
theorem inv_quiet (c : Ctx P X call ops ms ord O F M C V H) (hI : DInv P ops.toList ord O F M V φ0 w0 a0 listed a w p φ) (hr : Rdy ops.toList ms ord O listed p j q) (hne : ¬ isE ops.toList O F q) {v' : Value} (hv : VR φ (V q) v') :
    DInv P ops.toList ord O F M V φ0 w0 a0 (listed.setIfInBounds j true) (a.put (O q).dst v') w p φ := by
  have hsel := sel_set c.hG hI.size hr
  obtain ⟨t1, t2⟩ := tmps_put c.hG c.hms c.hR c.hn hI hr (Ext.refl φ) hv
  refine ⟨by simp [hI.size], cl_set hI hr, hI.ple, hI.pform, fun k hk => ?_, fun k hk hs => ?_, t1, t2, by rw [put_defers]; exact hI.defers, fun id l hl => ?_, hI.dead, hI.inj, hI.sim⟩
  · rw [hsel k]; split
    · rfl
    · exact hI.below k hk
  · rw [hsel k] at hs
    by_cases he : k = q
    · rw [he]; exact hne
    · rw [if_neg he] at hs; exact hI.above k hk hs
  · rcases hI.live id l hl with h | ⟨q', h1, h2, h3⟩
    · exact .inl h
    · refine .inr ⟨q', h1, ?_, h3⟩
      rw [hsel q']; split
      · rfl
      · exact h2

theorem quiet_run (c : Ctx P X call ops ms ord O F M C V H) (hI : DInv P ops.toList ord O F M V φ0 w0 a0 listed a w p φ) (hr : Rdy ops.toList ms ord O listed p j q)
    (hq : qop P (M q).get (F q).lev (O q) = some (V q)) (hs : looks (O q).op = false ∨ stable P (F q) (O q) (V q) (ms.getD j 0) (H q) = true) :
    ∃ v', (execOp a.eval (O q)).run P w = .ok (.value v') w ∧ VR φ (V q) v' := by
  have hql : q < ord.length := (List.getElem?_eq_some_iff.1 hr.at_).1
  have hρ := operand_at c.hG c.hms c.hR c.hn hI hr
  cases hlk : looks (O q).op with
  | false =>
    have hq' : qop P (fun _ => none) (F q).lev (O q) = some (V q) := by rw [qop_pure (g' := (M q).get) hlk]; exact hq
    exact qsim (P := P) (fun id b hb => by cases hb) hρ hq'
  | true =>
    rw [hlk] at hs
    have hs := hs.resolve_left (by simp)
    rcases first_eff O F ops.toList p q hr.ge with hno | ⟨e, h1, h2, h3, h4⟩
    · exact qsim (P := P) (mrp_same c hI (by omega) hr.ge hno) hρ hq
    · obtain ⟨i, l1, l2, g1, g2, g3⟩ := hist_at c.hR h3 q h2 (by omega)
      have hun : ∀ e', p ≤ e' → isE ops.toList O F e' → ∀ i', ord[e']? = some i' → tb (ms.getD j 0) i' = false := by
        intro e' he' hE i' hi'
        cases htb : tb (ms.getD j 0) i' with
        | false => rfl
        | true =>
          have := hr.anc i' htb
          exact absurd hE (hI.above e' he' (by rw [sel_at hi']; exact this))
      rw [g2] at hs
      have hqop := stable_at hs (fun x hx => by
        obtain ⟨e', k1, k2, k3, k4⟩ := g3 x hx
        exact hun e' (by omega) k3 x.1 k4) (hun e h1 h3 i g1)
      have hcur := cur_at c.hR c.hC hI.pform e h1 (by omega) h4
      rw [hcur] at hqop
      refine qsim (P := P) ?_ hρ hqop
      exact mrp_same c hI hI.ple (Nat.le_refl _) (fun q' ha hb => by omega)

/-- a block made at q has a number of its own -/
theorem alc_fresh (c : Ctx P X call ops ms ord O F M C V H) (hI : DInv P ops.toList ord O F M V φ0 w0 a0 listed a w p φ) (hr : Rdy ops.toList ms ord O listed p j q) {N : Nat} (hN1 : (M q).next ≤ N) (hN2 : N < (M (q + 1)).next) : φ N = none := by
  have hql : q < ord.length := (List.getElem?_eq_some_iff.1 hr.at_).1
  cases he : φ N with
  | none => rfl
  | some x =>
    exfalso
    obtain ⟨hwq, hmq⟩ := run_wf c.hP c.hc c.hR c.hw q (by omega)
    have hpq := hmq p hr.ge
    cases x with
    | none =>
      obtain ⟨h1, _⟩ := hI.dead N he
      omega
    | some l =>
      rcases hI.live N l he with ⟨h1, _⟩ | ⟨q', h1, h2, h3, h4, _⟩
      · omega
      · have hq'n := sel_lt h2
        obtain ⟨i, hi⟩ := ord_at (ord := ord) hq'n
        obtain ⟨hwq', hmq'⟩ := run_wf c.hP c.hc c.hR c.hw q' (by omega)
        obtain ⟨_, _, _, k3, _⟩ := alc_at c.hR hi hwq' h3
        have hne : q' ≠ q := fun h => by rw [h] at h2; rw [hr.un] at h2; cases h2
        rcases Nat.lt_or_ge q' q with hlt | hge
        · have := hmq (q' + 1) (by omega); omega
        · have := hmq' (q + 1) (by omega); omega

theorem inv_alc (c : Ctx P X call ops ms ord O F M C V H) (hI : DInv P ops.toList ord O F M V φ0 w0 a0 listed a w p φ) (hr : Rdy ops.toList ms ord O listed p j q) (ha : isA P ops.toList O F q) :
    ∃ v' obj, ∃ wz : World, ∃ φ', (execOp a.eval (O q)).run P w = .ok (.value v') (wz.alloc obj) ∧ DInv P ops.toList ord O F M V φ0 w0 a0 (listed.setIfInBounds j true) (a.put (O q).dst v') (wz.alloc obj) p φ' := by
  have hql : q < ord.length := (List.getElem?_eq_some_iff.1 hr.at_).1
  obtain ⟨hwq, hmq⟩ := run_wf c.hP c.hc c.hR c.hw q (by omega)
  obtain ⟨b, k1, k2, k3, k4⟩ := alc_at c.hR hr.at_ hwq ha
  have hfr := alc_fresh c hI hr (N := (M q).next) (Nat.le_refl _) (by omega)
  obtain ⟨v', obj, l, wz, g0, g1, g2, g3, g4⟩ := asim (P := P) (w := w) hfr (operand_at c.hG c.hms c.hR c.hn hI hr) k1
  obtain ⟨e1, e2, e3, e4⟩ : wz.heap = w.heap ∧ wz.os = w.os ∧ wz.tape = w.tape ∧ wz.output = w.output := by rcases g0 with rfl | rfl <;> exact ⟨rfl, rfl, rfl, rfl⟩
  have hext := ins_ext (l := l) hfr
  have hsel := sel_set c.hG hI.size hr
  obtain ⟨t1, t2⟩ := tmps_put c.hG c.hms c.hR c.hn hI hr hext g3
  have hrange : ∀ id l', φ id = some (some l') → l'.b < w.heap.size := fun id l' hl' => by
    rcases hI.live id l' hl' with ⟨_, b', _, h3⟩ | ⟨_, _, _, _, _, b', _, h3⟩
    · exact h3.lt
    · exact h3.lt
  have hold : ∀ k, k < w.heap.size → (wz.alloc obj).heap[k]? = w.heap[k]? := fun k hk => by rw [heap_alloc_lt wz obj k (by rw [e1]; exact hk), e1]
  refine ⟨v', obj, wz, ins φ (M q).next l, g1, ⟨by simp [hI.size], cl_set hI hr, hI.ple, hI.pform, fun k hk => ?_, fun k hk hs => ?_, t1, t2, by rw [put_defers]; exact hI.defers, fun id l' hl' => ?_, fun id hd => ?_, fun id jd l1 l2 h1 h2 h3 => ?_, ?_⟩⟩
  · rw [hsel k]; split
    · rfl
    · exact hI.below k hk
  · rw [hsel k] at hs
    by_cases he : k = q
    · rw [he]; exact fun h => by have := h.2; rw [ha.2.1] at this; cases this
    · rw [if_neg he] at hs; exact hI.above k hk hs
  · by_cases hid : id = (M q).next
    · subst hid
      rw [ins_same] at hl'; cases hl'
      exact .inr ⟨q, hr.ge, by rw [hsel q, if_pos rfl], ha, rfl, b, k4, g4⟩
    · rw [ins_other hid] at hl'
      have hlt := hrange id l' hl'
      rcases hI.live id l' hl' with ⟨h1, b', h2, h3⟩ | ⟨q', h1, h2, h3, h4, b', h5, h6⟩
      · exact .inl ⟨h1, b', h2, h3.mono hext (hold _ hlt)⟩
      · refine .inr ⟨q', h1, ?_, h3, h4, b', h5, h6.mono hext (hold _ hlt)⟩
        rw [hsel q']; split
        · rfl
        · exact h2
  · have hid : id ≠ (M q).next := fun h => by rw [h, ins_same] at hd; cases hd
    rw [ins_other hid] at hd
    exact hI.dead id hd
  · by_cases hid : id = (M q).next
    · by_cases hjd : jd = (M q).next
      · rw [hid, hjd]
      · subst hid
        rw [ins_same] at h1; cases h1
        rw [ins_other hjd] at h2
        have := hrange jd l2 h2
        omega
    · by_cases hjd : jd = (M q).next
      · subst hjd
        rw [ins_same] at h2; cases h2
        rw [ins_other hid] at h1
        have := hrange id l1 h1
        omega
      · rw [ins_other hid] at h1; rw [ins_other hjd] at h2
        exact hI.inj id jd l1 l2 h1 h2 h3
  · refine hI.sim.trans (n' := (M 0).next) (Nat.le_refl _) ⟨hext, fun id l' hl' => ?_, fun id hid h0 => ?_, ⟨e2, e3, e4, by simp [e1], fun k hk _ => hold k hk⟩⟩
    · by_cases hid : id = (M q).next
      · subst hid; rw [ins_same] at hl'; cases hl'; exact .inr (by omega)
      · rw [ins_other hid] at hl'; exact .inl ⟨id, l', hl', rfl⟩
    · have := hmq 0 (Nat.zero_le _)
      rw [ins_other (by omega)]; exact h0

theorem inv_eff (c : Ctx P X call ops ms ord O F M C V H) (hI : DInv P ops.toList ord O F M V φ0 w0 a0 listed a w p φ) (hr : Rdy ops.toList ms ord O listed p j q) (he : isE ops.toList O F q)
    (K : Act → World → Prop) (Q : Exit → Act → World → Prop)
    (hK : ∀ φ' w' v', DInv P ops.toList ord O F M V φ0 w0 a0 (listed.setIfInBounds j true) (a.put (O q).dst v') w' (q + 1) φ' → K (a.put (O q).dst v') w') : (O q).wp P a w K Q := by
  have hql : q < ord.length := (List.getElem?_eq_some_iff.1 hr.at_).1
  obtain ⟨hwq, hmq⟩ := run_wf c.hP c.hc c.hR c.hw q (by omega)
  obtain ⟨hwq1, hmq1⟩ := run_wf c.hP c.hc c.hR c.hw (q + 1) (by omega)
  have hN : (M q).next < 1152921504606846976 := by have := hwq.room; omega
  -- all that is ahead of q has come up
  have hall : ∀ q', q' < q → sel ord listed q' = true := by
    intro q' hq'
    obtain ⟨i, hi⟩ := ord_at (ord := ord) (q := q') (by omega)
    rw [sel_at hi]
    exact hr.anc i (c.hG.eff q j (O q) hr.at_ hr.op he.2 q' i hq' hi)
  have hno : ∀ q', p ≤ q' → q' < q → ¬ isE ops.toList O F q' := fun q' h1 h2 => hI.above q' h1 (hall q' h2)
  have hbt := mem_between c.hP c.hc c.hR c.hw q hr.ge (by omega) hno
  have hpart := mrp_same c hI (by omega) hr.ge hno
  have hrange : ∀ id l', φ id = some (some l') → l'.b < w.heap.size := fun id l' hl' => by
    rcases hI.live id l' hl' with ⟨_, b', _, h3⟩ | ⟨_, _, _, _, _, b', _, h3⟩
    · exact h3.lt
    · exact h3.lt
  have hpn := hmq p hr.ge
  -- the blocks below (M q).next
  have hcut : ∀ id x, cut φ (M q).next id = some x → id < (M q).next ∧ φ id = some x := by
    intro id x hx
    by_cases hid : id < (M q).next
    · rw [cut_at hid] at hx; exact ⟨hid, hx⟩
    · rw [cut_none (by omega)] at hx; cases hx
  have hmr : MR (cut φ (M q).next) (M q).get w := by
    refine ⟨fun id l hl => ?_, fun id hd => ?_, fun id jd l l' h1 h2 h3 => ?_⟩
    · obtain ⟨hid, hl'⟩ := hcut id _ hl
      have hsome : ∃ b, (M q).get id = some b := by
        rcases hI.live id l hl' with ⟨h1, b', h2, h3⟩ | ⟨q', h1, h2, h3, h4, b', h5, h6⟩
        · exact ⟨b', by rw [hbt id h1]; exact h2⟩
        · have hq'n := sel_lt h2
          obtain ⟨i, hi⟩ := ord_at (ord := ord) hq'n
          obtain ⟨hwq', hmq'⟩ := run_wf c.hP c.hc c.hR c.hw q' (by omega)
          obtain ⟨_, _, _, k3, _⟩ := alc_at c.hR hi hwq' h3
          rcases Nat.lt_or_ge q' q with hlt | hge
          · refine ⟨b', ?_⟩
            rw [mem_between c.hP c.hc c.hR c.hw (p := q' + 1) q (by omega) (by omega) (fun x hx hx' => hno x (by omega) hx') id (by omega)]
            exact h5
          · have := hmq' q hge; omega
      obtain ⟨b, hb⟩ := hsome
      exact ⟨b, hb, ((hpart id b hb).1 l hl').cut hN (hwq.closed id b hb)⟩
    · obtain ⟨hid, hd'⟩ := hcut id _ hd
      obtain ⟨h1, h2⟩ := hI.dead id hd'
      rw [hbt id h1]; exact h2
    · exact hI.inj id jd l l' (hcut id _ h1).2 (hcut jd _ h2).2 h3
  have hbd : Bd (cut φ (M q).next) (M q).next := fun id hid => by
    rcases Nat.lt_or_ge id (M q).next with h | h
    · exact h
    · rw [cut_none h] at hid; exact absurd rfl hid
  cases hR : c.hR.step q j hr.at_ with
  | skip h => rw [he.1] at h; cases h
  | alc _ h => rw [he.2] at h; cases h
  | quiet _ h => rw [he.2] at h; cases h
  | eff _ _ hub hd hC hH =>
    have hρ : ∀ x ∈ (O q).op.operands.toList, VR (cut φ (M q).next) ((F q).lev x) (a.eval x) := by
      intro x hx
      have hv := operand_at c.hG c.hms c.hR c.hn hI hr x hx
      refine hv.cut hN 7 ?_
      have hok : okOperand x = true := List.all_eq_true.1 (List.all_eq_true.1 c.hG.ok (O q) (List.mem_of_getElem? hr.op)) x hx
      cases x with
      | tmp t => exact hub t (List.mem_append_left _ (List.mem_filterMap.2 ⟨.tmp t, hx, rfl⟩))
      | const v => have := Nat.eq_of_beq_eq_true hok; show ub v ≤ _; omega
      | global g => cases hok
      | func g => exact Nat.zero_le _
    obtain ⟨_, hgive⟩ := doEff_sim c.hP c.hc hwq hd
    refine hgive _ w a hmr hbd hρ K Q fun φ2 w' v' hs hv hm2 hb2 => ?_
    have hb2n : ∀ id x, φ2 id = some x → id < (M (q + 1)).next := fun id x hx => hb2 id (by rw [hx]; simp)
    have hle : (M q).next ≤ (M (q + 1)).next := hmq1 q (by omega)
    have hfresh : ∀ N, (M q).next ≤ N → N < (M (q + 1)).next → φ N = none := fun N h1 h2 => alc_fresh c hI hr h1 h2
    -- the new map of blocks
    have hphi : ∃ φ' : Phi, (∀ id, id < (M (q + 1)).next → φ' id = φ2 id) ∧ (∀ id, (M (q + 1)).next ≤ id → φ' id = φ id) :=
      ⟨fun id => if id < (M (q + 1)).next then φ2 id else φ id, fun id h => by simp [h], fun id h => by simp [Nat.not_lt.2 h]⟩
    obtain ⟨φ', hlo, hhi⟩ := hphi
    have hext : Ext φ φ' := by
      intro id hid
      rcases Nat.lt_or_ge id (M (q + 1)).next with h | h
      · rw [hlo id h]
        rcases Nat.lt_or_ge id (M q).next with h' | h'
        · have := hs.ext id (by rw [cut_at h']; exact hid)
          rw [cut_at h'] at this; exact this
        · exact absurd (hfresh id h' h) hid
      · exact .inl (hhi id h)
    have hext2 : Ext φ2 φ' := fun id hid => .inl (hlo id (hb2 id hid))
    have hsel := sel_set c.hG hI.size hr
    obtain ⟨t1, t2⟩ := tmps_put c.hG c.hms c.hR c.hn hI hr hext (hv.mono hext2)
    -- blocks beyond
    have hbeyond : ∀ id l', (M (q + 1)).next ≤ id → φ id = some (some l') → w'.heap[l'.b]? = w.heap[l'.b]? := by
      intro id l' hid hl'
      refine hs.fr.same _ (hrange id l' hl') fun jd l2 hl2 heq => ?_
      obtain ⟨hjd, hl2'⟩ := hcut jd _ hl2
      have := hI.inj jd id l2 l' hl2' hl' heq
      omega
    refine hK φ' w' v' ⟨by simp [hI.size], cl_set hI hr, by omega, .inr (by simpa using he), fun k hk => ?_, fun k hk hs' => ?_, t1, t2, by rw [put_defers]; exact hI.defers, fun id l' hl' => ?_, fun id hd' => ?_, fun id jd l1 l2 h1 h2 h3 => ?_, ?_⟩
    · rw [hsel k]; split
      · rfl
      · exact hall k (by omega)
    · rw [hsel k, if_neg (by omega)] at hs'
      exact hI.above k (by have := hr.ge; omega) hs'
    · rcases Nat.lt_or_ge id (M (q + 1)).next with h | h
      · rw [hlo id h] at hl'
        obtain ⟨b, g1, g2⟩ := hm2.live id l' hl'
        exact .inl ⟨h, b, g1, g2.mono hext2 rfl⟩
      · rw [hhi id h] at hl'
        rcases hI.live id l' hl' with ⟨h1, _⟩ | ⟨q', h1, h2, h3, h4, b', h5, h6⟩
        · omega
        · have hq'n := sel_lt h2
          obtain ⟨i, hi⟩ := ord_at (ord := ord) hq'n
          obtain ⟨hwq', hmq'⟩ := run_wf c.hP c.hc c.hR c.hw q' (by omega)
          obtain ⟨_, _, _, k3, _⟩ := alc_at c.hR hi hwq' h3
          have hqq : q + 1 ≤ q' := by
            rcases Nat.lt_or_ge q' (q + 1) with hlt | hge
            · exfalso
              have hne : q' ≠ q := fun hx => by rw [hx] at h3; have := h3.2.1; rw [he.2] at this; cases this
              have := hmq (q' + 1) (by omega)
              omega
            · exact hge
          refine .inr ⟨q', hqq, ?_, h3, h4, b', h5, h6.mono hext (hbeyond id l' h hl')⟩
          rw [hsel q']; split
          · rfl
          · exact h2
    · rcases Nat.lt_or_ge id (M (q + 1)).next with h | h
      · rw [hlo id h] at hd'
        exact ⟨h, hm2.dead id hd'⟩
      · rw [hhi id h] at hd'
        have := (hI.dead id hd').1
        omega
    · have mixed : ∀ id jd l1 l2, id < (M (q + 1)).next → (M (q + 1)).next ≤ jd → φ2 id = some (some l1) → φ jd = some (some l2) → l1.b = l2.b → False := by
        intro id jd l1 l2 hid hjd h1 h2 h3
        have hlt := hrange jd l2 h2
        rcases hs.new id l1 h1 with ⟨kd, l0, g1, g2⟩ | g1
        · obtain ⟨hkd, g1'⟩ := hcut kd _ g1
          have := hI.inj kd jd l0 l2 g1' h2 (g2.trans h3)
          omega
        · omega
      rcases Nat.lt_or_ge id (M (q + 1)).next with h | h
      · rw [hlo id h] at h1
        rcases Nat.lt_or_ge jd (M (q + 1)).next with h' | h'
        · rw [hlo jd h'] at h2; exact hm2.inj id jd l1 l2 h1 h2 h3
        · rw [hhi jd h'] at h2; exact (mixed id jd l1 l2 h h' h1 h2 h3).elim
      · rw [hhi id h] at h1
        rcases Nat.lt_or_ge jd (M (q + 1)).next with h' | h'
        · rw [hlo jd h'] at h2; exact (mixed jd id l2 l1 h' h h2 h1 h3.symm).elim
        · rw [hhi jd h'] at h2; exact hI.inj id jd l1 l2 h1 h2 h3
    · refine hI.sim.trans (n' := (M 0).next) (Nat.le_refl _) ⟨hext, fun id l' hl' => ?_, fun id hid h0 => ?_, ⟨hs.fr.os, hs.fr.tape, hs.fr.output, hs.fr.size, fun k hk hk' => ?_⟩⟩
      · rcases Nat.lt_or_ge id (M (q + 1)).next with h | h
        · rw [hlo id h] at hl'
          rcases hs.new id l' hl' with ⟨kd, l0, g1, g2⟩ | g1
          · exact .inl ⟨kd, l0, (hcut kd _ g1).2, g2⟩
          · exact .inr g1
        · rw [hhi id h] at hl'; exact .inl ⟨id, l', hl', rfl⟩
      · have hm0 := hmq 0 (Nat.zero_le _)
        rw [hlo id (by omega)]
        exact hs.un id (by omega) (by rw [cut_at (by omega)]; exact h0)
      · exact hs.fr.same k hk fun id l hl => hk' id l (hcut id _ hl).2
end
end Go.Eng
