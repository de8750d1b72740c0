/- A region that draws its order: the logical run as a trace. -/
import Derived.Test.YtopofdjgfbimnaaGreatEngM
namespace Go.Eng
variable [SymV] [SymT]
section
variable {P : Program} {X : ExtT} {call : CallT}

/-- one step of the logical run -/
inductive DStep (P : Program) (X : ExtT) (call : CallT) (L : List Oper) (ms : List Nat) (i : Nat) (o : Oper) (f : LF) (m m' c c' : LMem) (v : Value) (h h' : List (Nat × LMem)) : Prop where
  | skip : lwanted L o f = false → v = undef → m' = m → c' = c → h' = h → DStep P X call L ms i o f m m' c c' v h h'
  | eff : lwanted L o f = true → isEff o.op = true → (∀ t ∈ tmpsOf L o, ub (f.get t) ≤ m.next) → doEff P X call f o m = some (v, m') → c' = m' → h' = (i, c) :: h → DStep P X call L ms i o f m m' c c' v h h'
  | alc : lwanted L o f = true → isEff o.op = false → isAlcP P o.op = true → doAlc P f o m = some (v, m') → c' = c → h' = h → DStep P X call L ms i o f m m' c c' v h h'
  | quiet : lwanted L o f = true → isEff o.op = false → isAlcP P o.op = false → qop P m.get f.lev o = some v → (looks o.op = false ∨ stable P f o v (ms.getD i 0) h = true) → m' = m → c' = c → h' = h →
      DStep P X call L ms i o f m m' c c' v h h'

structure DRun (P : Program) (X : ExtT) (call : CallT) (L : List Oper) (ms ord : List Nat) (O : Nat → Oper) (F : Nat → LF) (M C : Nat → LMem) (V : Nat → Value) (H : Nat → List (Nat × LMem)) : Prop where
  op : ∀ (q i : Nat), ord[q]? = some i → L[i]? = some (O q)
  put : ∀ (q i : Nat), ord[q]? = some i → (F q).put (O q).dst (V q) = some (F (q + 1))
  step : ∀ (q i : Nat), ord[q]? = some i → DStep P X call L ms i (O q) (F q) (M q) (M (q + 1)) (C q) (C (q + 1)) (V q) (H q) (H (q + 1))

def cons {α : Type} (a : α) (f : Nat → α) : Nat → α
  | 0 => a
  | n + 1 => f n

theorem trace (L : List Oper) (ms : List Nat) : ∀ (ord : List Nat) (f : LF) (m cur : LMem) (hist : List (Nat × LMem)) (ff : LF) (mm : LMem), runDraw P X call L ms ord f m cur hist = some (ff, mm) →
    ∃ O F M C V H, F 0 = f ∧ M 0 = m ∧ C 0 = cur ∧ H 0 = hist ∧ F ord.length = ff ∧ M ord.length = mm ∧ DRun P X call L ms ord O F M C V H := by
  intro ord
  induction ord with
  | nil =>
    intro f m cur hist ff mm h
    simp only [runDraw, Option.some.injEq, Prod.mk.injEq] at h
    obtain ⟨rfl, rfl⟩ := h
    exact ⟨fun _ => default, fun _ => f, fun _ => m, fun _ => cur, fun _ => undef, fun _ => hist, rfl, rfl, rfl, rfl, rfl, rfl, ⟨fun q i h => by simp at h, fun q i h => by simp at h, fun q i h => by simp at h⟩⟩
  | cons i r ih =>
    intro f m cur hist ff mm h
    unfold runDraw at h
    split at h
    case h_1 => cases h
    rename_i o ho
    have key : ∀ (v : Value) (f1 : LF) (m1 cur1 : LMem) (hist1 : List (Nat × LMem)), f.put o.dst v = some f1 → DStep P X call L ms i o f m m1 cur cur1 v hist hist1 →
        runDraw P X call L ms r f1 m1 cur1 hist1 = some (ff, mm) →
        ∃ O F M C V H, F 0 = f ∧ M 0 = m ∧ C 0 = cur ∧ H 0 = hist ∧ F (i :: r).length = ff ∧ M (i :: r).length = mm ∧ DRun P X call L ms (i :: r) O F M C V H := by
      intro v f1 m1 cur1 hist1 hput hstep hrun
      obtain ⟨O, F, M, C, V, H, h1, h2, h3, h4, h5, h6, h7⟩ := ih f1 m1 cur1 hist1 ff mm hrun
      refine ⟨cons o O, cons f F, cons m M, cons cur C, cons v V, cons hist H, rfl, rfl, rfl, rfl, h5, h6, ⟨fun q j hq => ?_, fun q j hq => ?_, fun q j hq => ?_⟩⟩
      · cases q with
        | zero => simp at hq; subst hq; exact ho
        | succ q => exact h7.op q j (by simpa using hq)
      · cases q with
        | zero => simp only [cons]; rw [h1]; exact hput
        | succ q => exact h7.put q j (by simpa using hq)
      · cases q with
        | zero => simp at hq; subst hq; simp only [cons]; rw [h2, h3, h4]; exact hstep
        | succ q => exact h7.step q j (by simpa using hq)
    cases hw : lwanted L o f with
    | false =>
      simp only [hw, cond_false] at h
      split at h
      case h_2 => cases h
      rename_i f1 hput
      exact key undef f1 m cur hist hput (.skip hw rfl rfl rfl rfl) h
    | true =>
      simp only [hw, cond_true] at h
      cases he : isEff o.op with
      | true =>
        simp only [he, cond_true] at h
        cases hub : (tmpsOf L o).all fun t => Nat.ble (ub (f.get t)) m.next with
        | false => simp only [hub, cond_false] at h; cases h
        | true =>
          simp only [hub, cond_true] at h
          split at h
          case h_2 => cases h
          rename_i v m1 hd
          split at h
          case h_2 => cases h
          rename_i f1 hput
          exact key v f1 m1 m1 _ hput (.eff hw he (fun t ht => Nat.le_of_ble_eq_true (List.all_eq_true.1 hub t ht)) hd rfl rfl) h
      | false =>
        simp only [he, cond_false] at h
        cases ha : isAlcP P o.op with
        | true =>
          simp only [ha, cond_true] at h
          split at h
          case h_2 => cases h
          rename_i v m1 hd
          split at h
          case h_2 => cases h
          rename_i f1 hput
          exact key v f1 m1 cur hist hput (.alc hw he ha hd rfl rfl) h
        | false =>
          simp only [ha, cond_false] at h
          split at h
          case h_2 => cases h
          rename_i v hq
          cases hs : (!looks o.op || stable P f o v (ms.getD i 0) hist) with
          | false => simp only [hs, cond_false] at h; cases h
          | true =>
            simp only [hs, cond_true] at h
            split at h
            case h_2 => cases h
            rename_i f1 hput
            rw [Bool.or_eq_true, Bool.not_eq_true'] at hs
            exact key v f1 m cur hist hput (.quiet hw he ha hq hs rfl rfl rfl) h

/-- an effect was carried out at a position -/
def isE (L : List Oper) (O : Nat → Oper) (F : Nat → LF) (q : Nat) : Prop := lwanted L (O q) (F q) = true ∧ isEff (O q).op = true
def isA (P : Program) (L : List Oper) (O : Nat → Oper) (F : Nat → LF) (q : Nat) : Prop := lwanted L (O q) (F q) = true ∧ isEff (O q).op = false ∧ isAlcP P (O q).op = true

variable {L : List Oper} {ms ord : List Nat} {O : Nat → Oper} {F : Nat → LF} {M C : Nat → LMem} {V : Nat → Value} {H : Nat → List (Nat × LMem)}

theorem ord_at {q : Nat} (h : q < ord.length) : ∃ i, ord[q]? = some i := by
  have _s := SymT.tab
  exact ⟨_, List.getElem?_eq_getElem h⟩

theorem run_wf (hP : POK P X) (hc : CallSound P call) (hR : DRun P X call L ms ord O F M C V H) (hw : WF (M 0)) : ∀ q, q ≤ ord.length → WF (M q) ∧ ∀ q', q' ≤ q → (M q').next ≤ (M q).next := by
  intro q
  induction q with
  | zero =>
    intro _
    refine ⟨hw, fun q' h => ?_⟩
    have : q' = 0 := by omega
    subst this
    exact Nat.le_refl _
  | succ q ih =>
    intro hq
    obtain ⟨h1, h2⟩ := ih (by omega)
    obtain ⟨i, hi⟩ := ord_at (ord := ord) (q := q) (by omega)
    have : WF (M (q + 1)) ∧ (M q).next ≤ (M (q + 1)).next := by
      cases hR.step q i hi with
      | skip _ _ hm => rw [hm]; exact ⟨h1, Nat.le_refl _⟩
      | eff _ _ _ hd => obtain ⟨g, _⟩ := doEff_sim hP hc h1 hd; exact ⟨g.2, g.1⟩
      | alc _ _ _ hd => obtain ⟨g, _⟩ := doAlc_sim h1 hd; exact ⟨g.2, g.1⟩
      | quiet _ _ _ _ _ hm => rw [hm]; exact ⟨h1, Nat.le_refl _⟩
    refine ⟨this.1, fun q' hq' => ?_⟩
    by_cases he : q' = q + 1
    · rw [he]; exact Nat.le_refl _
    · exact Nat.le_trans (h2 q' (by omega)) this.2

/-- where an allocation lies -/
theorem alc_at (hR : DRun P X call L ms ord O F M C V H) {q i : Nat} (hi : ord[q]? = some i) (hw : WF (M q)) (ha : isA P L O F q) :
    ∃ b, aop P (F q).lev (O q) (M q).next = some (V q, b) ∧ (M q).alloc b = some (M (q + 1)) ∧ (M (q + 1)).next = (M q).next + 1 ∧ (M (q + 1)).get (M q).next = some b := by
  cases hR.step q i hi with
  | skip h => rw [ha.1] at h; cases h
  | eff _ h => rw [ha.2.1] at h; cases h
  | quiet _ _ h => rw [ha.2.2] at h; cases h
  | alc _ _ _ hd =>
    unfold doAlc at hd
    split at hd
    case h_2 => cases hd
    rename_i v b hb
    simp only [Option.map_eq_some_iff, Prod.mk.injEq] at hd
    obtain ⟨m1, hal, rfl, rfl⟩ := hd
    obtain ⟨a1, a2, _, _⟩ := LMem.alloc_spec hw hal
    exact ⟨b, hb, hal, a1, a2⟩

/-- without an effect between, blocks stay -/
theorem mem_between (hP : POK P X) (hc : CallSound P call) (hR : DRun P X call L ms ord O F M C V H) (hw : WF (M 0)) {p : Nat} : ∀ q, p ≤ q → q ≤ ord.length → (∀ q', p ≤ q' → q' < q → ¬ isE L O F q') →
    ∀ id, id < (M p).next → (M q).get id = (M p).get id := by
  intro q
  induction q with
  | zero => intro h _ _ id _; have : p = 0 := by omega
            subst this; rfl
  | succ q ih =>
    intro hpq hq hne id hid
    by_cases he : p = q + 1
    · rw [he]
    · have h1 := ih (by omega) (by omega) (fun q' a b => hne q' a (by omega)) id hid
      obtain ⟨hwq, hmono⟩ := run_wf hP hc hR hw q (by omega)
      obtain ⟨i, hi⟩ := ord_at (ord := ord) (q := q) (by omega)
      rw [← h1]
      cases hR.step q i hi with
      | skip _ _ hm => rw [hm]
      | eff a b => exact absurd ⟨a, b⟩ (hne q (by omega) (by omega))
      | alc a b c hd =>
        obtain ⟨b', _, hal, _, _⟩ := alc_at hR hi hwq ⟨a, b, c⟩
        obtain ⟨_, _, a3, _⟩ := LMem.alloc_spec hwq hal
        exact a3 id (by have := hmono p (by omega); omega)
      | quiet _ _ _ _ _ hm => rw [hm]

/-- a snapshot is the memory behind the last effect -/
theorem cur_at (hR : DRun P X call L ms ord O F M C V H) (h0 : C 0 = M 0) {p : Nat} (hp : p = 0 ∨ isE L O F (p - 1)) : ∀ q, p ≤ q → q ≤ ord.length → (∀ q', p ≤ q' → q' < q → ¬ isE L O F q') → C q = M p := by
  intro q
  induction q with
  | zero => intro h _ _; have : p = 0 := by omega
            subst this; exact h0
  | succ q ih =>
    intro hpq hq hne
    obtain ⟨i, hi⟩ := ord_at (ord := ord) (q := q) (by omega)
    by_cases he : p = q + 1
    · subst he
      rcases hp with hp | hp
      · omega
      · simp only [Nat.add_sub_cancel] at hp
        cases hR.step q i hi with
        | skip h => rw [hp.1] at h; cases h
        | eff _ _ _ _ hc => exact hc
        | alc _ h => rw [hp.2] at h; cases h
        | quiet _ h => rw [hp.2] at h; cases h
    · have h1 := ih (by omega) (by omega) (fun q' a b => hne q' a (by omega))
      cases hR.step q i hi with
      | skip _ _ _ hc => rw [hc]; exact h1
      | eff a b => exact absurd ⟨a, b⟩ (hne q (by omega) (by omega))
      | alc _ _ _ _ hc => rw [hc]; exact h1
      | quiet _ _ _ _ _ _ hc => rw [hc]; exact h1

/-- an effect's snapshot stands in the history, behind later effects alone -/
theorem hist_at (hR : DRun P X call L ms ord O F M C V H) {e : Nat} (he : isE L O F e) : ∀ q, e < q → q ≤ ord.length →
    ∃ i l1 l2, ord[e]? = some i ∧ H q = l1 ++ (i, C e) :: l2 ∧ ∀ x ∈ l1, ∃ e', e < e' ∧ e' < q ∧ isE L O F e' ∧ ord[e']? = some x.1 := by
  intro q
  induction q with
  | zero => intro h _; omega
  | succ q ih =>
    intro heq hq
    obtain ⟨i, hi⟩ := ord_at (ord := ord) (q := q) (by omega)
    by_cases hqe : e = q
    · subst hqe
      cases hR.step e i hi with
      | skip h => rw [he.1] at h; cases h
      | eff _ _ _ _ _ hh => exact ⟨i, [], H e, hi, by rw [hh]; rfl, fun x hx => by simp at hx⟩
      | alc _ h => rw [he.2] at h; cases h
      | quiet _ h => rw [he.2] at h; cases h
    · obtain ⟨j, l1, l2, h1, h2, h3⟩ := ih (by omega) (by omega)
      have keep : H (q + 1) = H q → ∃ i l1 l2, ord[e]? = some i ∧ H (q + 1) = l1 ++ (i, C e) :: l2 ∧ ∀ x ∈ l1, ∃ e', e < e' ∧ e' < q + 1 ∧ isE L O F e' ∧ ord[e']? = some x.1 := by
        intro hh
        refine ⟨j, l1, l2, h1, by rw [hh]; exact h2, fun x hx => ?_⟩
        obtain ⟨e', a, b, c⟩ := h3 x hx
        exact ⟨e', a, by omega, c⟩
      cases hR.step q i hi with
      | skip _ _ _ _ hh => exact keep hh
      | alc _ _ _ _ _ hh => exact keep hh
      | quiet _ _ _ _ _ _ _ hh => exact keep hh
      | eff a b _ _ _ hh =>
        refine ⟨j, (i, C q) :: l1, l2, h1, by rw [hh, h2]; rfl, fun x hx => ?_⟩
        rcases List.mem_cons.1 hx with rfl | hx
        · exact ⟨q, by omega, by omega, ⟨a, b⟩, hi⟩
        · obtain ⟨e', a', b', c'⟩ := h3 x hx
          exact ⟨e', a', by omega, c'⟩

theorem veqL_eq {eq : Value → Value → Bool} (he : ∀ x y, eq x y = true → x = y) : ∀ {xs ys : List Value}, veqL eq xs ys = true → xs = ys
  | [], [], _ => by have _s := SymT.tab; exact rfl
  | [], _ :: _, h => by simp [veqL] at h
  | _ :: _, [], h => by simp [veqL] at h
  | x :: xs, y :: ys, h => by
    simp only [veqL, Bool.and_eq_true] at h
    rw [he x y h.1, veqL_eq he h.2]

theorem aeq_eq {a b : Addr} (h : aeq a b = true) : a = b := by
  have _s := SymT.tab
  obtain ⟨b1, o1, s1⟩ := a
  obtain ⟨b2, o2, s2⟩ := b
  simp only [aeq, Bool.and_eq_true] at h
  obtain ⟨⟨h1, h2⟩, h3⟩ := h
  have h1 := Nat.eq_of_beq_eq_true h1
  have h2 := Nat.eq_of_beq_eq_true h2
  subst h1 h2
  cases s1 <;> cases s2 <;> simp at h3
  · rfl
  · subst h3; rfl

theorem veq_eq : ∀ (n : Nat) (x y : Value), veq n x y = true → x = y := by
  intro n
  induction n with
  | zero => intro x y h; simp [veq] at h
  | succ n ih =>
    intro x y h
    unfold veq at h
    split at h <;> try (cases h; done)
    · simp at h; subst h; rfl
    · simp at h; obtain ⟨rfl, rfl⟩ := h; rfl
    · simp at h; congr 1; exact ByteArray.ext h
    · rfl
    · rw [aeq_eq h]
    · simp only [Bool.and_eq_true] at h; rw [Nat.eq_of_beq_eq_true h.1, Nat.eq_of_beq_eq_true h.2]
    · simp only [Bool.and_eq_true] at h; rw [aeq_eq h.1.1, Nat.eq_of_beq_eq_true h.1.2, Nat.eq_of_beq_eq_true h.2]
    · rfl
    · rw [Nat.eq_of_beq_eq_true h]
    · simp only [Bool.and_eq_true, decide_eq_true_eq] at h; rw [h.1.1, Nat.eq_of_beq_eq_true h.1.2, Nat.eq_of_beq_eq_true h.2]
    · rfl
    · rfl
    · simp only [Bool.and_eq_true] at h; rw [Nat.eq_of_beq_eq_true h.1, ih _ _ h.2]
    · congr 1; exact Array.ext' (veqL_eq ih h)
    · congr 1; exact Array.ext' (veqL_eq ih h)
    · simp only [Bool.and_eq_true] at h
      rw [Nat.eq_of_beq_eq_true h.1.1, Array.ext' (veqL_eq ih h.1.2), Array.ext' (veqL_eq ih h.2)]

theorem stable_at {f : LF} {o : Oper} {v : Value} {mj e : Nat} {mem : LMem} : ∀ {l1 l2 : List (Nat × LMem)}, stable P f o v mj (l1 ++ (e, mem) :: l2) = true → (∀ x ∈ l1, tb mj x.1 = false) → tb mj e = false →
    qop P mem.get f.lev o = some v
  | [], l2, h, _, he => by
    simp only [List.nil_append, stable, he, Bool.false_or, Bool.and_eq_true] at h
    obtain ⟨h1, _⟩ := h
    split at h1
    · rename_i u hu; rw [hu, veq_eq 7 u v h1]
    · cases h1
  | (x, mx) :: l1, l2, h, hall, he => by
    simp only [List.cons_append, stable, hall (x, mx) (by simp), Bool.false_or, Bool.and_eq_true] at h
    exact stable_at h.2 (fun y hy => hall y (by simp [hy])) he
end
end Go.Eng
