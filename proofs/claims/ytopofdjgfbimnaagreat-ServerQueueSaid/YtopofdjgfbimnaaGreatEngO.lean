/- A region that draws its order: whatever order comes up, the state is the logical one. -/
import Derived.Test.YtopofdjgfbimnaaGreatEngN
namespace Go.Eng
variable [SymV] [SymT]
section
variable {P : Program} {X : ExtT} {call : CallT}

/-- a temporary behind the positions of S below k -/
noncomputable def TV (O : Nat → Oper) (V : Nat → Value) (f0 : LF) (S : Nat → Bool) : Nat → Nat → Value
  | 0, t => f0.get t
  | k + 1, t => if S k = true ∧ (O k).dst = some t then V k else TV O V f0 S k t

variable {L : List Oper} {ms ord : List Nat} {O : Nat → Oper} {F : Nat → LF} {M C : Nat → LMem} {V : Nat → Value} {H : Nat → List (Nat × LMem)}

theorem frame_TV (hR : DRun P X call L ms ord O F M C V H) (hn : LFok (F 0)) : ∀ q, q ≤ ord.length → ((F q).nt = (F 0).nt ∧ LFok (F q)) ∧ ∀ t, (F q).get t = TV O V (F 0) (fun _ => true) q t := by
  intro q
  induction q with
  | zero => intro _; exact ⟨⟨rfl, hn⟩, fun _ => rfl⟩
  | succ q ih =>
    intro hq
    obtain ⟨⟨h1, h0⟩, h2⟩ := ih (by omega)
    obtain ⟨i, hi⟩ := ord_at (ord := ord) (q := q) (by omega)
    have hp := hR.put q i hi
    cases hd : (O q).dst with
    | none =>
      rw [hd] at hp
      simp only [LF.put, Option.some.injEq] at hp
      refine ⟨by rw [← hp]; exact ⟨h1, h0⟩, fun t => ?_⟩
      rw [← hp, h2 t]
      simp [TV, hd]
    | some d =>
      rw [hd] at hp
      obtain ⟨a1, a0, a2, a3⟩ := LF.get_put h0 hp
      refine ⟨⟨a1.trans h1, a0⟩, fun t => ?_⟩
      rw [a3 t, h2 t]
      simp only [TV, hd, Option.some.injEq]
      by_cases ht : t = d
      · subst ht; simp
      · rw [if_neg ht, if_neg (fun h => ht h.2.symm)]

theorem TV_agree {f0 : LF} {S S' : Nat → Bool} {t : Nat} : ∀ q, (∀ k, k < q → (O k).dst = some t → S k = S' k) → TV O V f0 S q t = TV O V f0 S' q t := by
  have _s := SymT.tab
  intro q
  induction q with
  | zero => intro _; rfl
  | succ q ih =>
    intro h
    have h1 := ih fun k hk => h k (by omega)
    simp only [TV]
    by_cases hd : (O q).dst = some t
    · rw [h q (by omega) hd, h1]
    · rw [if_neg (fun x => hd x.2), if_neg (fun x => hd x.2), h1]

theorem TV_tail {f0 : LF} {S : Nat → Bool} {t q : Nat} : ∀ n, q ≤ n → (∀ k, q ≤ k → k < n → (O k).dst = some t → S k = false) → TV O V f0 S n t = TV O V f0 S q t := by
  have _s := SymT.tab
  intro n
  induction n with
  | zero => intro h _; have : q = 0 := by omega
            subst this; rfl
  | succ n ih =>
    intro hq h
    by_cases he : q = n + 1
    · rw [he]
    · have h1 := ih (by omega) fun k a b => h k a (by omega)
      simp only [TV]
      rw [if_neg ?_, h1]
      rintro ⟨a, b⟩
      rw [h n (by omega) (by omega) b] at a; cases a

def sel (ord : List Nat) (listed : Array Bool) (q : Nat) : Bool :=
  match ord[q]? with
  | some i => listed.getD i false
  | none => false

theorem sel_at {listed : Array Bool} {q i : Nat} (h : ord[q]? = some i) : sel ord listed q = listed.getD i false := by
  have _s := SymT.tab
  simp [sel, h]

theorem sel_lt {listed : Array Bool} {q : Nat} (h : sel ord listed q = true) : q < ord.length := by
  have _s := SymT.tab
  rcases Nat.lt_or_ge q ord.length with h' | h'
  · exact h'
  · simp [sel, List.getElem?_eq_none h'] at h

structure DInv (P : Program) (L : List Oper) (ord : List Nat) (O : Nat → Oper) (F : Nat → LF) (M : Nat → LMem) (V : Nat → Value) (φ0 : Phi) (w0 : World) (a0 : Act) (listed : Array Bool) (a : Act) (w : World) (p : Nat) (φ : Phi) : Prop where
  size : listed.size = L.length
  cl : Cl L (fun i => listed.getD i false = true)
  ple : p ≤ ord.length
  pform : p = 0 ∨ isE L O F (p - 1)
  below : ∀ q, q < p → sel ord listed q = true
  above : ∀ q, p ≤ q → sel ord listed q = true → ¬ isE L O F q
  tsize : a.tmps.size = (F 0).nt
  tmps : ∀ t, VR φ (TV O V (F 0) (sel ord listed) ord.length t) (a.tmps.getD t undef)
  defers : a.defers = a0.defers
  live : ∀ id l, φ id = some (some l) → (id < (M p).next ∧ ∃ b, (M p).get id = some b ∧ BR φ b l w) ∨
    (∃ q, p ≤ q ∧ sel ord listed q = true ∧ isA P L O F q ∧ id = (M q).next ∧ ∃ b, (M (q + 1)).get id = some b ∧ BR φ b l w)
  dead : ∀ id, φ id = some none → id < (M p).next ∧ (M p).get id = some .dead
  inj : ∀ id jd l l', φ id = some (some l) → φ jd = some (some l') → l.b = l'.b → id = jd
  sim : Sim (M 0).next φ0 φ w0 w

theorem binds_eq (e : Edge) : Region.binds .any e = bnd e := by
  have _s := SymT.tab
  unfold Region.binds bnd
  cases e.ground <;> rfl

variable {φ0 φ : Phi} {w0 w : World} {a0 a : Act} {listed : Array Bool} {p : Nat}

/-- what is known of an operation that may come up -/
structure Rdy (L : List Oper) (ms ord : List Nat) (O : Nat → Oper) (listed : Array Bool) (p j q : Nat) : Prop where
  at_ : ord[q]? = some j
  op : L[j]? = some (O q)
  un : sel ord listed q = false
  ge : p ≤ q
  direct : ∀ e ∈ (O q).after.toList, bnd e = true → listed.getD e.on false = true
  anc : ∀ i, tb (ms.getD j 0) i = true → listed.getD i false = true

theorem listed_lt {i : Nat} (h : listed.getD i false = true) : i < listed.size := by
  have _s := SymT.tab
  rcases Nat.lt_or_ge i listed.size with h' | h'
  · exact h'
  · simp [Array.getElem?_eq_none h'] at h

theorem ready_pos {ops : Array Oper} (hG : RegOK ops.toList (masks ops.toList []) ord) (hR : DRun P X call ops.toList (masks ops.toList []) ord O F M C V H)
    (hI : DInv P ops.toList ord O F M V φ0 w0 a0 listed a w p φ) {j : Nat} (hj : j ∈ Region.ready .any ops listed) : ∃ q, Rdy ops.toList (masks ops.toList []) ord O listed p j q := by
  rw [mem_ready] at hj
  obtain ⟨h0, o, ho, hall⟩ := hj
  have hlt : j < ops.toList.length := by simpa using (Array.getElem?_eq_some_iff.1 ho).1
  obtain ⟨q, hq⟩ := hG.all j hlt
  have hop := hR.op q j hq
  have hoo : O q = o := by
    have : ops.toList[j]? = some o := by simpa using ho
    rw [this] at hop; cases hop; rfl
  have hfalse : listed.getD j false = false := by
    have : j < listed.size := by rw [hI.size]; exact hlt
    simp [this] at h0 ⊢; exact h0
  have hdir : ∀ e ∈ (O q).after.toList, bnd e = true → listed.getD e.on false = true := fun e he hb => by
    rw [hoo] at he
    exact hall e (by simpa using he) (by rw [binds_eq]; exact hb)
  refine ⟨q, hq, hop, by rw [sel_at hq]; exact hfalse, ?_, hdir, ?_⟩
  · rcases Nat.lt_or_ge q p with h | h
    · have := hI.below q h
      rw [sel_at hq, hfalse] at this; cases this
    · exact h
  · exact mask_closed hI.cl (fun i hi => by have := listed_lt hi; rw [hI.size] at this; exact this) j (O q) hop hdir

variable {ops : Array Oper} {j q : Nat}

/-- no position that waits for q has come up -/
theorem later_un (hI : DInv P L ord O F M V φ0 w0 a0 listed a w p φ) (hr : Rdy L ms ord O listed p j q) (hms : ms = masks L []) (hR : DRun P X call L ms ord O F M C V H) {q' i' : Nat} (h' : ord[q']? = some i')
    (hb : tb (ms.getD i' 0) j = true) : sel ord listed q' = false := by
  cases hs : sel ord listed q' with
  | false => rfl
  | true =>
    rw [sel_at h'] at hs
    have hop := hR.op q' i' h'
    subst hms
    have := mask_closed hI.cl (fun i hi => by have := listed_lt hi; rw [hI.size] at this; exact this) i' (O q') hop (hI.cl i' (O q') hop hs) j hb
    have hun := hr.un
    rw [sel_at hr.at_, this] at hun; cases hun

theorem writers (hG : RegOK L ms ord) (hms : ms = masks L []) (hR : DRun P X call L ms ord O F M C V H) (hI : DInv P L ord O F M V φ0 w0 a0 listed a w p φ) (hr : Rdy L ms ord O listed p j q) {t : Nat} (ht : t ∈ namesOf L (O q))
    {k : Nat} (hk : k < ord.length) (hne : k ≠ q) (hd : (O k).dst = some t) : (k < q → sel ord listed k = true) ∧ (q < k → sel ord listed k = false) := by
  obtain ⟨i, hi⟩ := ord_at (ord := ord) hk
  have hoi := hR.op k i hi
  have hij : i ≠ j := fun h => hne (hG.inj k q i hi (by rw [h]; exact hr.at_))
  have h3 := hG.tmps i j (O k) (O q) t hoi hr.op hij hd ht
  refine ⟨fun hlt => ?_, fun hgt => ?_⟩
  · rcases h3 with h3 | h3
    · rw [sel_at hi]; exact hr.anc i h3
    · obtain ⟨q', hq', he⟩ := hG.ahead k i j hi h3
      have := hG.inj q' q j he hr.at_
      omega
  · rcases h3 with h3 | h3
    · obtain ⟨q', hq', he⟩ := hG.ahead q j i hr.at_ h3
      have := hG.inj q' k i he hi
      omega
    · exact later_un hI hr hms hR hi h3

/-- what q looks at stands as the logical run has it -/
theorem tmp_at (hG : RegOK L ms ord) (hms : ms = masks L []) (hR : DRun P X call L ms ord O F M C V H) (hn : LFok (F 0)) (hI : DInv P L ord O F M V φ0 w0 a0 listed a w p φ) (hr : Rdy L ms ord O listed p j q) {t : Nat}
    (ht : t ∈ tmpsOf L (O q)) : VR φ ((F q).get t) (a.tmps.getD t undef) := by
  have hq : q < ord.length := (List.getElem?_eq_some_iff.1 hr.at_).1
  have htn : t ∈ namesOf L (O q) := List.mem_append_right _ ht
  have h1 : TV O V (F 0) (sel ord listed) ord.length t = TV O V (F 0) (sel ord listed) q t := by
    refine TV_tail _ (by omega) fun k hk hkn hd => ?_
    by_cases he : k = q
    · rw [he]; exact hr.un
    · exact (writers hG hms hR hI hr htn hkn he hd).2 (by omega)
  have h2 : TV O V (F 0) (sel ord listed) q t = TV O V (F 0) (fun _ => true) q t := by
    refine TV_agree q fun k hk hd => ?_
    exact (writers hG hms hR hI hr htn (by omega) (by omega) hd).1 hk
  have := hI.tmps t
  rw [h1, h2, ← (frame_TV hR hn q (by omega)).2 t] at this
  exact this

theorem operand_at (hG : RegOK L ms ord) (hms : ms = masks L []) (hR : DRun P X call L ms ord O F M C V H) (hn : LFok (F 0)) (hI : DInv P L ord O F M V φ0 w0 a0 listed a w p φ) (hr : Rdy L ms ord O listed p j q) :
    ∀ x ∈ (O q).op.operands.toList, VR φ ((F q).lev x) (a.eval x) := by
  intro x hx
  have hok : okOperand x = true := List.all_eq_true.1 (List.all_eq_true.1 hG.ok (O q) (List.mem_of_getElem? hr.op)) x hx
  cases x with
  | tmp t =>
    refine tmp_at hG hms hR hn hI hr (List.mem_append_left _ ?_)
    exact List.mem_filterMap.2 ⟨.tmp t, hx, rfl⟩
  | const v => exact VR.refl 7 v (Nat.eq_of_beq_eq_true hok)
  | global g => cases hok
  | func g => exact .func _ _ _ _ _ .nil .nil

theorem wanted_at {ops : Array Oper} (hG : RegOK ops.toList ms ord) (hms : ms = masks ops.toList []) (hR : DRun P X call ops.toList ms ord O F M C V H) (hn : LFok (F 0)) (hI : DInv P ops.toList ord O F M V φ0 w0 a0 listed a w p φ)
    (hr : Rdy ops.toList ms ord O listed p j q) : Region.wanted (O q) (yielded ops a.tmps) = lwanted ops.toList (O q) (F q) := by
  have hq : q < ord.length := (List.getElem?_eq_some_iff.1 hr.at_).1
  refine wanted_sim (φ := φ) (fun g wt d hg hd => tmp_at hG hms hR hn hI hr (List.mem_append_right _ ?_)) (by rw [hI.tsize, (frame_TV hR hn q (by omega)).1.1])
  rw [hg]
  simp
  exact hd

theorem sel_set (hG : RegOK L ms ord) (hsz : listed.size = L.length) (hr : Rdy L ms ord O listed p j q) (k : Nat) : sel ord (listed.setIfInBounds j true) k = if k = q then true else sel ord listed k := by
  have hjl : j < listed.size := by rw [hsz]; exact hG.lt q j hr.at_
  by_cases hk : k = q
  · subst hk
    rw [sel_at hr.at_, if_pos rfl]
    simp [hjl]
  · rw [if_neg hk]
    cases hi : ord[k]? with
    | none => simp [sel, hi]
    | some i =>
      rw [sel_at hi, sel_at hi]
      have hne : j ≠ i := fun h => hk (hG.inj k q i hi (by rw [← h]; exact hr.at_))
      exact getD_set_ne false hne

theorem cl_set (hI : DInv P L ord O F M V φ0 w0 a0 listed a w p φ) (hr : Rdy L ms ord O listed p j q) : Cl L (fun i => (listed.setIfInBounds j true).getD i false = true) := by
  have _s := SymT.tab
  intro i o ho hi e he hb
  by_cases hij : i = j
  · subst hij
    have := hr.op
    rw [ho] at this; cases this
    exact getD_set_true (hr.direct e he hb)
  · rw [getD_set_ne false (Ne.symm hij)] at hi
    exact getD_set_true (hI.cl i o ho hi e he hb)

theorem tmps_put (hG : RegOK L ms ord) (hms : ms = masks L []) (hR : DRun P X call L ms ord O F M C V H) (hn : LFok (F 0)) (hI : DInv P L ord O F M V φ0 w0 a0 listed a w p φ) (hr : Rdy L ms ord O listed p j q) {φ' : Phi} {v' : Value}
    (hext : Ext φ φ') (hv : VR φ' (V q) v') : (a.put (O q).dst v').tmps.size = (F 0).nt ∧ ∀ t, VR φ' (TV O V (F 0) (sel ord (listed.setIfInBounds j true)) ord.length t) ((a.put (O q).dst v').tmps.getD t undef) := by
  have hq : q < ord.length := (List.getElem?_eq_some_iff.1 hr.at_).1
  have hsel := sel_set hG hI.size hr
  have hput := hR.put q j hr.at_
  cases hd : (O q).dst with
  | none =>
    refine ⟨hI.tsize, fun t => ?_⟩
    have : TV O V (F 0) (sel ord (listed.setIfInBounds j true)) ord.length t = TV O V (F 0) (sel ord listed) ord.length t := by
      refine TV_agree _ fun k hk hdk => ?_
      rw [hsel k]
      by_cases he : k = q
      · rw [he, hd] at hdk; cases hdk
      · rw [if_neg he]
    rw [this]
    exact (hI.tmps t).mono hext
  | some d =>
    rw [hd] at hput
    obtain ⟨hnq, hnok⟩ := (frame_TV hR hn q (by omega)).1
    obtain ⟨_, _, hdlt, _⟩ := LF.get_put hnok hput
    rw [hnq] at hdlt
    refine ⟨by simp [Act.put, hI.tsize], fun t => ?_⟩
    by_cases ht : t = d
    · subst ht
      have h1 : TV O V (F 0) (sel ord (listed.setIfInBounds j true)) ord.length t = TV O V (F 0) (sel ord (listed.setIfInBounds j true)) (q + 1) t := by
        refine TV_tail _ (by omega) fun k hk hkn hdk => ?_
        rw [hsel k, if_neg (by omega)]
        exact (writers hG hms hR hI hr (List.mem_append_left _ (by rw [hd]; simp)) hkn (by omega) hdk).2 (by omega)
      rw [h1]
      have h2 : TV O V (F 0) (sel ord (listed.setIfInBounds j true)) (q + 1) t = V q := by
        simp only [TV]
        rw [if_pos ⟨by rw [hsel q, if_pos rfl], hd⟩]
      rw [h2]
      have h3 : (a.put (some t) v').tmps.getD t undef = v' := by
        simp [Act.put, hI.tsize, hdlt]
      rw [h3]; exact hv
    · have h1 : TV O V (F 0) (sel ord (listed.setIfInBounds j true)) ord.length t = TV O V (F 0) (sel ord listed) ord.length t := by
        refine TV_agree _ fun k hk hdk => ?_
        rw [hsel k]
        by_cases he : k = q
        · rw [he, hd] at hdk; cases hdk; exact absurd rfl ht
        · rw [if_neg he]
      rw [h1]
      have h3 : (a.put (some d) v').tmps.getD t undef = a.tmps.getD t undef := by
        simp [Act.put, Array.getElem?_setIfInBounds_ne (Ne.symm ht)]
      rw [h3]
      exact (hI.tmps t).mono hext
end
end Go.Eng
