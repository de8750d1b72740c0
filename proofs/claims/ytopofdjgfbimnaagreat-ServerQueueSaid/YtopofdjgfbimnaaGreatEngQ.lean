/- The engine is sound: drawn regions, code, calls. -/
import Derived.Test.YtopofdjgfbimnaaGreatEngP
namespace Go.Eng
variable [SymV] [SymT]
section
variable {P : Program} {X : ExtT} {call : CallT}
variable {ms ord : List Nat} {O : Nat → Oper} {F : Nat → LF} {M C : Nat → LMem} {V : Nat → Value} {H : Nat → List (Nat × LMem)}
variable {φ0 φ : Phi} {w0 w : World} {a0 a : Act} {listed : Array Bool} {p : Nat} {ops : Array Oper} {j q : Nat}

/-- how many positions have not come up -/
def cU (S : Nat → Bool) : Nat → Nat
  | 0 => 0
  | k + 1 => cU S k + (if S k = true then 0 else 1)

theorem cU_zero {S : Nat → Bool} : ∀ {n : Nat}, cU S n = 0 → ∀ q, q < n → S q = true
  | 0, _, q, h => by have _s := SymT.tab; have _s := SymT.tab; omega
  | n + 1, h, q, hq => by
    simp only [cU] at h
    by_cases hs : S n = true
    · by_cases he : q = n
      · rw [he]; exact hs
      · exact cU_zero (n := n) (by omega) q (by omega)
    · simp [hs] at h

theorem cU_set {S S' : Nat → Bool} {q : Nat} (hq : S q = false) (hs : ∀ k, S' k = if k = q then true else S k) : ∀ {n : Nat}, (q < n → cU S' n + 1 = cU S n) ∧ (n ≤ q → cU S' n = cU S n)
  | 0 => by have _s := SymT.tab; exact ⟨fun h => by omega, fun _ => rfl⟩
  | n + 1 => by
    obtain ⟨h1, h2⟩ := cU_set hq hs (n := n)
    refine ⟨fun h => ?_, fun h => ?_⟩
    · simp only [cU]
      by_cases he : q = n
      · subst he
        rw [hs q, hq, h2 (Nat.le_refl _)]; simp
      · rw [hs n, if_neg (Ne.symm he)]
        have := h1 (by omega)
        omega
    · have hn : S' n = S n := by rw [hs n, if_neg (by omega)]
      simp only [cU]
      rw [hn, h2 (by omega)]

theorem cU_pos {S : Nat → Bool} : ∀ {n : Nat}, cU S n ≠ 0 → ∃ q, q < n ∧ S q = false ∧ ∀ k, k < q → S k = true
  | 0, h => by simp [cU] at h
  | n + 1, h => by
    by_cases h0 : cU S n = 0
    · refine ⟨n, by omega, ?_, cU_zero h0⟩
      simp only [cU, h0] at h
      cases hs : S n
      · rfl
      · simp [hs] at h
    · obtain ⟨q, h1, h2, h3⟩ := cU_pos h0
      exact ⟨q, by omega, h2, h3⟩

theorem inv_end (c : Ctx P X call ops ms ord O F M C V H) (hI : DInv P ops.toList ord O F M V φ0 w0 a0 listed a w p φ) (hall : ∀ q, q < ord.length → sel ord listed q = true) :
    Sim (M 0).next φ0 φ w0 w ∧ FR φ (F ord.length) a ∧ MR φ (M ord.length).get w ∧ Bd φ (M ord.length).next := by
  obtain ⟨hwn, hmn⟩ := run_wf c.hP c.hc c.hR c.hw ord.length (Nat.le_refl _)
  have hno : ∀ q', p ≤ q' → q' < ord.length → ¬ isE ops.toList O F q' := fun q' h1 h2 => hI.above q' h1 (hall q' h2)
  have hbt := mem_between c.hP c.hc c.hR c.hw ord.length hI.ple (Nat.le_refl _) hno
  obtain ⟨⟨hnt, hnok⟩, htv⟩ := frame_TV c.hR c.hn ord.length (Nat.le_refl _)
  refine ⟨hI.sim, ⟨by rw [hI.tsize, hnt], hnok, fun t => ?_⟩, ⟨fun id l hl => ?_, fun id hd => ?_, hI.inj⟩, fun id hid => ?_⟩
  · rw [htv t, TV_agree (S' := sel ord listed) ord.length fun k hk _ => (hall k hk).symm]
    exact hI.tmps t
  · rcases hI.live id l hl with ⟨h1, b', h2, h3⟩ | ⟨q', h1, h2, h3, h4, b', h5, h6⟩
    · exact ⟨b', by rw [hbt id h1]; exact h2, h3⟩
    · have hq'n := sel_lt h2
      obtain ⟨i, hi⟩ := ord_at (ord := ord) hq'n
      obtain ⟨hwq', _⟩ := run_wf c.hP c.hc c.hR c.hw q' (by omega)
      obtain ⟨_, _, _, k3, _⟩ := alc_at c.hR hi hwq' h3
      refine ⟨b', ?_, h6⟩
      rw [mem_between c.hP c.hc c.hR c.hw (p := q' + 1) ord.length (by omega) (Nat.le_refl _) (fun x hx hx' => hno x (by omega) hx') id (by omega)]
      exact h5
  · obtain ⟨h1, h2⟩ := hI.dead id hd
    rw [hbt id h1]; exact h2
  · have hpn := hmn p hI.ple
    cases he : φ id with
    | none => exact absurd he hid
    | some x => cases x with
      | none => have := (hI.dead id he).1; omega
      | some l =>
        rcases hI.live id l he with ⟨h1, _⟩ | ⟨q', h1, h2, h3, h4, _⟩
        · omega
        · have hq'n := sel_lt h2
          obtain ⟨i, hi⟩ := ord_at (ord := ord) hq'n
          obtain ⟨hwq', _⟩ := run_wf c.hP c.hc c.hR c.hw q' (by omega)
          obtain ⟨_, _, _, k3, _⟩ := alc_at c.hR hi hwq' h3
          have := hmn (q' + 1) (by omega)
          omega

theorem any_sim (c : Ctx P X call ops ms ord O F M C V H) {Q : Exit → Act → World → Prop}
    (hE : ∀ φ w a, Sim (M 0).next φ0 φ w0 w → FR φ (F ord.length) a → MR φ (M ord.length).get w → Bd φ (M ord.length).next → a.defers = a0.defers → Q .normal a w) :
    ∀ (fuel : Nat) (listed : Array Bool) (a : Act) (w : World) (p : Nat) (φ : Phi), DInv P ops.toList ord O F M V φ0 w0 a0 listed a w p φ → cU (sel ord listed) ord.length = fuel → wpAny P .any ops Q fuel listed a w := by
  intro fuel
  induction fuel with
  | zero =>
    intro listed a w p φ hI hcnt
    have hall := cU_zero hcnt
    refine ⟨?_, ?_⟩
    · apply List.eq_nil_iff_forall_not_mem.2
      intro j hj
      obtain ⟨q, hr⟩ := ready_pos (by rw [← c.hms]; exact c.hG) (by rw [← c.hms]; exact c.hR) hI hj
      have := hall q (List.getElem?_eq_some_iff.1 hr.at_).1
      rw [hr.un] at this; cases this
    · obtain ⟨h1, h2, h3, h4⟩ := inv_end c hI hall
      exact hE φ w a h1 h2 h3 h4 hI.defers
  | succ fuel ih =>
    intro listed a w p φ hI hcnt
    refine ⟨fun hnil => ?_, fun j hj => ?_⟩
    · exfalso
      obtain ⟨q, h1, h2, h3⟩ := cU_pos (n := ord.length) (S := sel ord listed) (by omega)
      obtain ⟨i, hi⟩ := ord_at (ord := ord) h1
      have hop := c.hR.op q i hi
      have hmem : i ∈ Region.ready .any ops listed := by
        rw [mem_ready]
        have hil : i < listed.size := by rw [hI.size]; exact c.hG.lt q i hi
        rw [sel_at hi] at h2
        refine ⟨?_, O q, by simpa using hop, fun e he hb => ?_⟩
        · simp [hil] at h2 ⊢; exact h2
        · rw [binds_eq] at hb
          have hm := mask_direct hop (e := e) (by simpa using he) hb
          rw [← c.hms] at hm
          obtain ⟨q', hq', he'⟩ := c.hG.ahead q i e.on hi hm
          have := h3 q' hq'
          rw [sel_at he'] at this; exact this
      rw [hnil] at hmem; cases hmem
    · obtain ⟨q, hr'⟩ := ready_pos (by rw [← c.hms]; exact c.hG) (by rw [← c.hms]; exact c.hR) hI hj
      have hr : Rdy ops.toList ms ord O listed p j q := by rw [c.hms]; exact hr'
      have hql : q < ord.length := (List.getElem?_eq_some_iff.1 hr.at_).1
      have hopj : ops[j]? = some (O q) := by have := hr.op; simpa using this
      have hcnt' : cU (sel ord (listed.setIfInBounds j true)) ord.length = fuel := by
        have := (cU_set hr.un (sel_set c.hG hI.size hr) (n := ord.length)).1 hql
        omega
      have hwant := wanted_at c.hG c.hms c.hR c.hn hI hr
      unfold wpOp
      simp only [hopj, hwant]
      cases hwt : lwanted ops.toList (O q) (F q) with
      | false =>
        simp only [Bool.false_eq_true, if_false]
        cases c.hR.step q j hr.at_ with
        | skip _ hv => exact ih _ _ _ p φ (inv_quiet c hI hr (fun h => by have h := h.1; rw [hwt] at h; cases h) (by rw [hv]; exact VR.undef)) hcnt'
        | eff h => rw [hwt] at h; cases h
        | alc h => rw [hwt] at h; cases h
        | quiet h => rw [hwt] at h; cases h
      | true =>
        simp only [if_true]
        left
        cases c.hR.step q j hr.at_ with
        | skip h => rw [hwt] at h; cases h
        | eff h1 h2 => exact inv_eff c hI hr ⟨h1, h2⟩ _ _ fun φ' w' v' hI' => ih _ _ _ (q + 1) φ' hI' hcnt'
        | alc h1 h2 h3 =>
          obtain ⟨v', obj, wz, φ', g1, g2⟩ := inv_alc c hI hr ⟨h1, h2, h3⟩
          unfold Oper.wp
          rw [g1]
          exact ih _ _ _ p φ' g2 hcnt'
        | quiet h1 h2 h3 h4 h5 =>
          obtain ⟨v', g1, g2⟩ := quiet_run c hI hr h4 h5
          unfold Oper.wp
          rw [g1]
          exact ih _ _ _ p φ (inv_quiet c hI hr (fun h => by have := h.2; rw [h2] at this; cases this) g2) hcnt'

theorem draw_sim (hP : POK P X) (hc : CallSound P call) {ops : Array Oper} {f f' : LF} {m m' : LMem} (hreg : regOK ops.toList = true) (hnt : LFok f)
    (h : runDraw P X call ops.toList (masks ops.toList []) (regOrd ops.toList (masks ops.toList [])) f m m [] = some (f', m')) (hw : WF m) :
    (m.next ≤ m'.next ∧ WF m' ∧ LFok f') ∧ ∀ {Q : Exit → Act → World → Prop} {id : Nat} φ w a, MR φ m.get w → Bd φ m.next → FR φ f a → Ends m m' f' φ a w (Q .normal) → (Code.region id ops true).wp P Q a w := by
  have hG := regOK_spec hreg
  obtain ⟨O, F, M, C, V, H, h1, h2, h3, h4, h5, h6, hR⟩ := trace ops.toList _ _ f m m [] f' m' h
  have c : Ctx P X call ops (masks ops.toList []) (regOrd ops.toList (masks ops.toList [])) O F M C V H :=
    ⟨hP, hc, hG, rfl, hR, by rw [h1]; exact hnt, by rw [h2]; exact hw, by rw [h2, h3]⟩
  obtain ⟨hwn, hmn⟩ := run_wf c.hP c.hc c.hR c.hw _ (Nat.le_refl _)
  refine ⟨⟨?_, by rw [← h6]; exact hwn, by rw [← h5]; exact (frame_TV c.hR c.hn _ (Nat.le_refl _)).1.2⟩, fun {Q id} φ w a hm hb hf hE => ?_⟩
  · have := hmn 0 (Nat.zero_le _)
    rw [h2, h6] at this; exact this
  · refine wp_region_any hP.mixed ?_
    have hlen : (regOrd ops.toList (masks ops.toList [])).length = ops.size := by rw [hG.len]; simp
    have hsel0 : ∀ q, sel (regOrd ops.toList (masks ops.toList [])) (Array.replicate ops.size false) q = false := by
      intro q
      unfold sel
      split
      · rename_i i hi
        by_cases hlt : i < ops.size
        · simp [hlt]
        · simp [hlt]
      · rfl
    have hfalse : ∀ i, (Array.replicate ops.size false).getD i false = false := by
      intro i
      by_cases hlt : i < ops.size
      · simp [hlt]
      · simp [hlt]
    have hcnt : cU (sel (regOrd ops.toList (masks ops.toList [])) (Array.replicate ops.size false)) (regOrd ops.toList (masks ops.toList [])).length = ops.size := by
      rw [hlen]
      generalize ops.size = n at *
      have : ∀ k, cU (sel (regOrd ops.toList (masks ops.toList [])) (Array.replicate n false)) k = k := by
        intro k
        induction k with
        | zero => rfl
        | succ k ih => simp only [cU, ih, hsel0 k]; rfl
      exact this n
    refine any_sim (φ0 := φ) (w0 := { w with drawn := w.drawn + 1 }) (a0 := a) c (fun φ' w' a' hs hf' hm' hb' hd' => ?_) ops.size _ a _ 0 φ ?_ hcnt
    · rw [h5] at hf'
      rw [h6] at hm' hb'
      rw [h2] at hs
      exact hE φ' w' a' ((Sim.drew _ φ w).trans (Nat.le_refl _) hs) hf' hm' hb' hd'
    · have hm' : MR φ m.get { w with drawn := w.drawn + 1 } := hm.same_heap rfl
      refine ⟨by simp, (fun i o _ hi => by simp only [hfalse i] at hi; cases hi), Nat.zero_le _, .inl rfl, (fun q hq => by omega), (fun q _ hs => by rw [hsel0 q] at hs; cases hs), by rw [h1]; exact hf.size, fun t => ?_, rfl,
        fun id l hl => .inl ?_, fun id hd => ?_, hm.inj, Sim.refl _ _ _⟩
      · rw [TV_tail (q := 0) _ (Nat.zero_le _) fun k _ _ _ => hsel0 k]
        show VR φ ((F 0).get t) _
        rw [h1]; exact hf.val t
      · obtain ⟨b, g1, g2⟩ := hm'.live id l hl
        rw [h2]
        exact ⟨hb id (by rw [hl]; simp), b, g1, g2⟩
      · rw [h2]
        exact ⟨hb id (by rw [hd]; simp), hm'.dead id hd⟩
end
end Go.Eng
