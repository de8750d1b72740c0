/- A region that draws its order: what its check says. -/
import Derived.Test.YtopofdjgfbimnaaGreatEngL
namespace Go.Eng
variable [SymV] [SymT]

theorem tb_eq (m i : Nat) : tb m i = m.testBit i := by
  have _s := SymT.tab
  rw [Nat.testBit_eq_decide_div_mod_eq]
  unfold tb
  cases h : Nat.beq (m / 2 ^ i % 2) 1 with
  | true => simp [Nat.eq_of_beq_eq_true h]
  | false =>
    have : ¬ m / 2 ^ i % 2 = 1 := fun h' => by rw [h'] at h; cases h
    simp [this]

theorem tb_lor (a b i : Nat) : tb (Nat.lor a b) i = (tb a i || tb b i) := by
  simp only [tb_eq]; exact Nat.testBit_or a b i
theorem tb_pow (a i : Nat) : tb (2 ^ a) i = decide (a = i) := by simp [tb_eq, Nat.testBit_two_pow]
theorem tb_zero (i : Nat) : tb 0 i = false := by simp [tb_eq]
theorem tb_land (a b i : Nat) : tb (Nat.land a b) i = (tb a i && tb b i) := by
  simp only [tb_eq]; exact Nat.testBit_and a b i

theorem maskOf_bits (acc : List Nat) : ∀ (es : List Edge) (s i : Nat), tb (maskOf acc es s) i = true → tb s i = true ∨ ∃ e ∈ es, bnd e = true ∧ (e.on = i ∨ tb (acc.getD e.on 0) i = true)
  | [], s, i, h => .inl h
  | e :: r, s, i, h => by
    rcases maskOf_bits acc r _ i h with h1 | ⟨e', he', h1⟩
    · cases hb : bnd e with
      | false => simp only [hb, cond_false] at h1; exact .inl h1
      | true =>
        simp only [hb, cond_true, tb_lor, tb_pow, Bool.or_eq_true, decide_eq_true_eq] at h1
        rcases h1 with h1 | h1 | h1
        · exact .inl h1
        · exact .inr ⟨e, by simp, hb, .inl h1⟩
        · exact .inr ⟨e, by simp, hb, .inr h1⟩
    · exact .inr ⟨e', by simp [he'], h1⟩

theorem maskOf_keeps (acc : List Nat) : ∀ (es : List Edge) (s i : Nat), tb s i = true → tb (maskOf acc es s) i = true
  | [], _, _, h => h
  | e :: r, s, i, h => by
    refine maskOf_keeps acc r _ i ?_
    cases bnd e
    · exact h
    · simp only [cond_true, tb_lor, h, Bool.true_or]

theorem maskOf_direct (acc : List Nat) : ∀ (es : List Edge) (s : Nat) (e : Edge), e ∈ es → bnd e = true → tb (maskOf acc es s) e.on = true
  | [], _, _, h, _ => by simp at h
  | x :: r, s, e, h, hb => by
    rcases List.mem_cons.1 h with rfl | h
    · refine maskOf_keeps acc r _ _ ?_
      simp only [hb, cond_true, tb_lor, tb_pow]; simp
    · exact maskOf_direct acc r _ e h hb

theorem masks_length : ∀ (L : List Oper) (acc : List Nat), (masks L acc).length = acc.length + L.length
  | [], acc => by have _s := SymT.tab; simp [masks]
  | o :: r, acc => by simp [masks, masks_length r]; omega

theorem masks_prefix : ∀ (L : List Oper) (acc : List Nat), (masks L acc).take acc.length = acc
  | [], acc => by have _s := SymT.tab; simp [masks]
  | o :: r, acc => by
    have := masks_prefix r (acc ++ [maskOf acc o.after.toList 0])
    unfold masks
    have h2 := congrArg (List.take acc.length) this
    rw [List.take_take] at h2
    simp at h2
    exact h2

theorem masks_get : ∀ (L : List Oper) (acc : List Nat) (j : Nat) (o : Oper), L[j]? = some o →
    (masks L acc).getD (acc.length + j) 0 = maskOf ((masks L acc).take (acc.length + j)) o.after.toList 0
  | [], _, _, _, h => by simp at h
  | o :: r, acc, 0, o', h => by
    simp at h; subst h
    have hp := masks_prefix r (acc ++ [maskOf acc o.after.toList 0])
    have hp2 := masks_prefix (o :: r) acc
    rw [Nat.add_zero, hp2]
    unfold masks
    have : (masks r (acc ++ [maskOf acc o.after.toList 0]))[acc.length]? = some (maskOf acc o.after.toList 0) := by
      have h3 : ((masks r (acc ++ [maskOf acc o.after.toList 0])).take (acc ++ [maskOf acc o.after.toList 0]).length)[acc.length]? = some (maskOf acc o.after.toList 0) := by
        rw [hp]; simp
      rw [List.getElem?_take_of_lt (by simp)] at h3
      exact h3
    simp [List.getD, this]
  | o :: r, acc, j + 1, o', h => by
    have := masks_get r (acc ++ [maskOf acc o.after.toList 0]) j o' (by simpa using h)
    unfold masks
    simpa [Nat.add_assoc, Nat.add_comm 1 j] using this

theorem mask_bits {L : List Oper} {j : Nat} {o : Oper} (h : L[j]? = some o) {i : Nat} (hb : tb ((masks L []).getD j 0) i = true) :
    ∃ e ∈ o.after.toList, bnd e = true ∧ (e.on = i ∨ (e.on < j ∧ tb ((masks L []).getD e.on 0) i = true)) := by
  have hg := masks_get L [] j o h
  simp only [List.length_nil, Nat.zero_add] at hg
  rw [hg] at hb
  rcases maskOf_bits _ _ _ _ hb with h1 | ⟨e, he, hbe, h1⟩
  · rw [tb_zero] at h1; cases h1
  · refine ⟨e, he, hbe, ?_⟩
    rcases h1 with h1 | h1
    · exact .inl h1
    · by_cases hlt : e.on < j
      · refine .inr ⟨hlt, ?_⟩
        simp only [List.getD] at h1 ⊢
        rw [List.getElem?_take_of_lt hlt] at h1
        exact h1
      · have hnone : ((masks L []).take j).getD e.on 0 = 0 := by
          simp only [List.getD]
          rw [List.getElem?_eq_none (by simp; omega)]; rfl
        rw [hnone, tb_zero] at h1; cases h1

theorem mask_direct {L : List Oper} {j : Nat} {o : Oper} (h : L[j]? = some o) {e : Edge} (he : e ∈ o.after.toList) (hb : bnd e = true) : tb ((masks L []).getD j 0) e.on = true := by
  have hg := masks_get L [] j o h
  simp only [List.length_nil, Nat.zero_add] at hg
  rw [hg]
  exact maskOf_direct _ _ _ e he hb

/-- what is listed holds all that is ahead of it -/
def Cl (L : List Oper) (listed : Nat → Prop) : Prop := ∀ j o, L[j]? = some o → listed j → ∀ e ∈ o.after.toList, bnd e = true → listed e.on

theorem mask_closed {L : List Oper} {listed : Nat → Prop} (hcl : Cl L listed) (hin : ∀ j, listed j → j < L.length) : ∀ (j : Nat) (o : Oper), L[j]? = some o → (∀ e ∈ o.after.toList, bnd e = true → listed e.on) →
    ∀ i, tb ((masks L []).getD j 0) i = true → listed i := by
  intro j
  induction j using Nat.strongRecOn with
  | _ j ih =>
    intro o ho hd i hi
    obtain ⟨e, he, hb, h1⟩ := mask_bits ho hi
    rcases h1 with rfl | ⟨hlt, h1⟩
    · exact hd e he hb
    · have hle := hd e he hb
      obtain ⟨o', ho'⟩ : ∃ o', L[e.on]? = some o' := ⟨_, List.getElem?_eq_getElem (hin _ hle)⟩
      exact ih e.on hlt o' ho' (hcl e.on o' ho' hle) i h1

/-- the check of an order, position by position -/
structure OrdOK (L : List Oper) (ms ord : List Nat) : Prop where
  lt : ∀ (q i : Nat), ord[q]? = some i → i < L.length
  inj : ∀ (q q' : Nat) (i : Nat), ord[q]? = some i → ord[q']? = some i → q = q'
  ahead : ∀ (q i j : Nat), ord[q]? = some i → tb (ms.getD i 0) j = true → ∃ q', q' < q ∧ ord[q']? = some j
  eff : ∀ (q i : Nat) (o : Oper), ord[q]? = some i → L[i]? = some o → isEff o.op = true → ∀ (q' j : Nat), q' < q → ord[q']? = some j → tb (ms.getD i 0) j = true

theorem land_sub {a b i : Nat} (h : Nat.beq (Nat.land a b) a = true) (hi : tb a i = true) : tb b i = true := by
  have := Nat.eq_of_beq_eq_true h
  rw [← this, tb_land, Bool.and_eq_true] at hi
  exact hi.2

theorem ordOK_spec (L : List Oper) (ms : List Nat) : ∀ (r pre : List Nat) (acc : Nat), (∀ j, tb acc j = true ↔ j ∈ pre) → ordOK L ms r acc = true → pre.Nodup → (∀ j ∈ pre, j < L.length) →
    (∀ (q i j : Nat), pre[q]? = some i → tb (ms.getD i 0) j = true → ∃ q', q' < q ∧ pre[q']? = some j) →
    (∀ (q i : Nat) (o : Oper), pre[q]? = some i → L[i]? = some o → isEff o.op = true → ∀ (q' j : Nat), q' < q → pre[q']? = some j → tb (ms.getD i 0) j = true) →
    OrdOK L ms (pre ++ r) := by
  intro r
  induction r with
  | nil =>
    intro pre acc hacc _ hnd hlt h1 h2
    rw [List.append_nil]
    exact ⟨fun q i h => hlt i (List.mem_of_getElem? h), fun q q' i h h' => by
      have e1 := (List.getElem?_eq_some_iff.1 h)
      have e2 := (List.getElem?_eq_some_iff.1 h')
      exact (List.getElem_inj (h₀ := e1.1) (h₁ := e2.1) hnd).1 (e1.2.trans e2.2.symm), h1, h2⟩
  | cons i r ih =>
    intro pre acc hacc hok hnd hlt h1 h2
    unfold ordOK at hok
    simp only [Bool.and_eq_true, Bool.or_eq_true, Bool.not_eq_true'] at hok
    obtain ⟨⟨⟨⟨k1, k2⟩, k3⟩, k4⟩, k5⟩ := hok
    have k1 := blt_lt k1
    have hni : i ∉ pre := fun h => by rw [(hacc i).2 h] at k2; cases k2
    have hpos : ∀ j, j ∈ pre → ∃ q', q' < pre.length ∧ pre[q']? = some j := fun j hj => by
      obtain ⟨q', hq', he⟩ := List.mem_iff_getElem.1 hj
      exact ⟨q', hq', by rw [List.getElem?_eq_getElem hq', he]⟩
    have := ih (pre ++ [i]) (Nat.lor acc (2 ^ i)) (fun j => by
      rw [tb_lor, tb_pow, Bool.or_eq_true, hacc j, List.mem_append, decide_eq_true_eq, List.mem_singleton, eq_comm]) k5 (by
        rw [List.nodup_append]
        exact ⟨hnd, by simp, fun a ha b hb => by simp at hb; subst hb; exact fun h => hni (h ▸ ha)⟩)
      (fun j hj => by
        rcases List.mem_append.1 hj with hj | hj
        · exact hlt j hj
        · simp at hj; subst hj; exact k1)
      (fun q x j hq hx => by
        by_cases hql : q < pre.length
        · rw [List.getElem?_append_left hql] at hq
          obtain ⟨q', hq', he⟩ := h1 q x j hq hx
          exact ⟨q', hq', by rw [List.getElem?_append_left (by omega)]; exact he⟩
        · rw [List.getElem?_append_right (by omega)] at hq
          have hq0 : q = pre.length := by
            have := (List.getElem?_eq_some_iff.1 hq).1
            simp at this; omega
          subst hq0
          simp at hq; subst hq
          have hj : j ∈ pre := (hacc j).1 (land_sub k3 hx)
          obtain ⟨q', hq', he⟩ := hpos j hj
          exact ⟨q', hq', by rw [List.getElem?_append_left hq']; exact he⟩)
      (fun q x o hq ho he q' j hq' hj => by
        by_cases hql : q < pre.length
        · rw [List.getElem?_append_left hql] at hq
          rw [List.getElem?_append_left (by omega)] at hj
          exact h2 q x o hq ho he q' j hq' hj
        · rw [List.getElem?_append_right (by omega)] at hq
          have hq0 : q = pre.length := by
            have := (List.getElem?_eq_some_iff.1 hq).1
            simp at this; omega
          subst hq0
          simp at hq; subst hq
          rw [List.getElem?_append_left hq'] at hj
          rcases k4 with k4 | k4
          · simp [ho, he] at k4
          · exact land_sub k4 ((hacc j).2 (List.mem_of_getElem? hj)))
    simpa using this

structure RegOK (L : List Oper) (ms ord : List Nat) : Prop extends OrdOK L ms ord where
  ok : L.all okOp = true
  len : ord.length = L.length
  all : ∀ i, i < L.length → ∃ q : Nat, ord[q]? = some i
  tmps : ∀ (i j : Nat) (oi oj : Oper) (d : Nat), L[i]? = some oi → L[j]? = some oj → i ≠ j → oi.dst = some d → d ∈ namesOf L oj → tb (ms.getD j 0) i = true ∨ tb (ms.getD i 0) j = true

theorem regOK_spec {L : List Oper} (h : regOK L = true) : RegOK L (masks L []) (regOrd L (masks L [])) := by
  unfold regOK at h
  simp only [Bool.and_eq_true] at h
  obtain ⟨⟨⟨⟨k1, k2⟩, k3⟩, k4⟩, k5⟩ := h
  have hord := ordOK_spec L (masks L []) (regOrd L (masks L [])) [] 0 (fun j => by rw [tb_zero]; simp) k3 (by simp) (by simp) (fun q i j h => by simp at h) (fun q i o h => by simp at h)
  rw [List.nil_append] at hord
  refine ⟨hord, k1, Nat.eq_of_beq_eq_true k2, fun i hi => ?_, fun i j oi oj d hi hj hne hd hn => ?_⟩
  · have := List.all_eq_true.1 k4 i (List.mem_range.2 hi)
    obtain ⟨q, hq, he⟩ := List.mem_iff_getElem.1 (List.contains_iff_mem.1 this)
    exact ⟨q, by rw [List.getElem?_eq_getElem hq, he]⟩
  · unfold tmpsOK at k5
    have h1 := List.all_eq_true.1 k5 j (List.mem_range.2 (List.getElem?_eq_some_iff.1 hj).1)
    simp only [hj] at h1
    have h2 := List.all_eq_true.1 h1 i (List.mem_range.2 (List.getElem?_eq_some_iff.1 hi).1)
    simp only [hi, hd, Bool.or_eq_true, Bool.not_eq_true'] at h2
    rcases h2 with h2 | (h2 | h2) | h2
    · exact absurd (Nat.eq_of_beq_eq_true h2) hne
    · have := List.contains_iff_mem.2 hn
      rw [this] at h2; cases h2
    · exact .inl h2
    · exact .inr h2
end Go.Eng
