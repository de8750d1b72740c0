/- The engine's run of a region in the order of its text is one of the model's. -/
import Derived.Test.YtopofdjgfbimnaaGreatEngK
namespace Go.Eng
variable [SymV] [SymT]
section
variable {P : Program}

/-- a frame that fits its trie -/
structure LFok (f : LF) : Prop where
  nt : f.nt ≤ 256

structure FR (φ : Phi) (f : LF) (a : Act) : Prop where
  size : a.tmps.size = f.nt
  ok : LFok f
  val : ∀ i, VR φ (f.get i) (a.tmps.getD i undef)


theorem LF.get_lt {f : LF} {i : Nat} (h : i < f.nt) : f.get i = (TF.get f.tr i).getD undef := by
  have _s := SymT.tab
  obtain ⟨tr, nt⟩ := f
  show Bool.rec (motive := fun _ => Value) undef (Option.rec (motive := fun _ => Value) undef (fun v => v) (TF.get tr i)) (Nat.blt i nt) = (TF.get tr i).getD undef
  rw [blt_true h]
  cases TF.get tr i <;> rfl
theorem LF.get_ge {f : LF} {i : Nat} (h : f.nt ≤ i) : f.get i = undef := by
  have _s := SymT.tab
  obtain ⟨tr, nt⟩ := f
  show Bool.rec (motive := fun _ => Value) undef (Option.rec (motive := fun _ => Value) undef (fun v => v) (TF.get tr i)) (Nat.blt i nt) = undef
  rw [blt_false h]

theorem LF.get_put {f f' : LF} {d : Nat} {v : Value} (hn : LFok f) (h : f.put (some d) v = some f') : f'.nt = f.nt ∧ LFok f' ∧ d < f.nt ∧ ∀ i, f'.get i = if i = d then v else f.get i := by
  have h : (bif Nat.blt d f.nt then some { f with tr := TF.set f.tr d v } else none) = some f' := by cases f; exact h
  cases hd : Nat.blt d f.nt with
  | false => simp [hd] at h
  | true =>
    simp only [hd, cond_true, Option.some.injEq] at h
    subst h
    have hd' := blt_lt hd
    have h256 := hn.nt
    refine ⟨rfl, ⟨hn.nt⟩, hd', fun i => ?_⟩
    by_cases hi : i < f.nt
    · rw [LF.get_lt (by exact hi), TF.get_set]
      by_cases he : i = d
      · subst he; simp
      · rw [if_neg he, if_neg (by rw [Nat.mod_eq_of_lt (by omega), Nat.mod_eq_of_lt (by omega)]; omega), LF.get_lt hi]
    · rw [LF.get_ge (by show f.nt ≤ i; omega), if_neg (by omega), LF.get_ge (by omega)]

theorem LFok.put {f f' : LF} {d : Option Nat} {v : Value} (hn : LFok f) (h : f.put d v = some f') : LFok f' ∧ f'.nt = f.nt := by
  cases d with
  | none => simp [LF.put] at h; subst h; exact ⟨hn, rfl⟩
  | some d => obtain ⟨h1, h2, _⟩ := LF.get_put hn h; exact ⟨h2, h1⟩

theorem FR.put {φ : Phi} {f f' : LF} {a : Act} {dst : Option Nat} {v v' : Value} (h : FR φ f a) (hp : f.put dst v = some f') (hv : VR φ v v') : FR φ f' (a.put dst v') := by
  cases dst with
  | none => simp [LF.put] at hp; subst hp; exact h
  | some d =>
    obtain ⟨h1, h0, h2, h3⟩ := LF.get_put h.ok hp
    refine ⟨by simp [Act.put, h.size, h1], h0, fun i => ?_⟩
    rw [h3 i]
    by_cases he : i = d
    · subst he
      rw [if_pos rfl]
      have : (a.put (some i) v').tmps.getD i undef = v' := by
        simp [Act.put, h.size, h2]
      rw [this]; exact hv
    · rw [if_neg he]
      have : (a.put (some d) v').tmps.getD i undef = a.tmps.getD i undef := by
        simp [Act.put, Array.getElem?_setIfInBounds_ne (Ne.symm he)]
      rw [this]; exact h.val i

theorem FR.mono {φ φ' : Phi} {f : LF} {a : Act} (h : FR φ f a) (he : Ext φ φ') : FR φ' f a := by
  have _s := SymT.tab
  have _s := SymT.tab
  exact ⟨h.size, h.ok, fun i => (h.val i).mono he⟩

theorem FR.eval {φ : Phi} {f : LF} {a : Act} (h : FR φ f a) {x : Operand} (hx : okOperand x = true) : VR φ (f.lev x) (a.eval x) := by
  have _s := SymT.tab
  cases x with
  | tmp i => exact h.val i
  | const v => exact VR.refl 7 v (Nat.eq_of_beq_eq_true hx)
  | global g => cases hx
  | func g => exact .func _ _ _ _ _ .nil .nil

theorem ops_ok {φ : Phi} {f : LF} {a : Act} (h : FR φ f a) {o : Oper} (ho : okOp o = true) : ∀ x ∈ o.op.operands.toList, VR φ (f.lev x) (a.eval x) :=
  fun x hx => h.eval (List.all_eq_true.1 ho x hx)

def CallPost (m m' : LMem) (v : Value) (φ : Phi) (w : World) (e : Ending) (w' : World) : Prop :=
  ∃ v' φ', e = .returned v' ∧ Sim m.next φ φ' w w' ∧ VR φ' v v' ∧ MR φ' m'.get w' ∧ Bd φ' m'.next

def CallSound (P : Program) (call : CallT) : Prop :=
  ∀ g args m v m', call g args m = some (v, m') → WF m → (m.next ≤ m'.next ∧ WF m') ∧
    ∀ φ w args', MR φ m.get w → Bd φ m.next → VRL φ args args' → Calls P g ⟨args'⟩ w (CallPost m m' v φ w)

/-- what an operation must give -/
def Gives (P : Program) (o : Oper) (m m' : LMem) (v : Value) (φ : Phi) (a : Act) (w : World) : Prop :=
  ∀ (K : Act → World → Prop) (Q : Exit → Act → World → Prop),
    (∀ φ' w' v', Sim m.next φ φ' w w' → VR φ' v v' → MR φ' m'.get w' → Bd φ' m'.next → K (a.put o.dst v') w') → o.wp P a w K Q

theorem gives_of_eff {o : Oper} {m m' : LMem} {v : Value} {φ : Phi} {a : Act} {w : World} (h : Eff m m' v φ w ((execOp a.eval o).run P w)) : Gives P o m m' v φ a w := by
  have _s := SymT.tab
  intro K Q hK
  obtain ⟨v', w', φ', h1, h2, h3, h4, h5⟩ := h
  unfold Oper.wp
  rcases h1 with h1 | ⟨h1, rfl⟩
  · rw [h1]; exact hK φ' w' v' h2 h3 h4 h5
  · rw [h1]; exact hK φ' w' undef h2 h3 h4 h5

theorem doEff_sim {X : ExtT} {call : CallT} (hP : POK P X) (hc : CallSound P call) {f : LF} {o : Oper} {m m' : LMem} {v : Value} (hw : WF m) (h : doEff P X call f o m = some (v, m')) :
    (m.next ≤ m'.next ∧ WF m') ∧ ∀ φ w a, MR φ m.get w → Bd φ m.next → (∀ x ∈ o.op.operands.toList, VR φ (f.lev x) (a.eval x)) → Gives P o m m' v φ a w := by
  unfold doEff at h
  split at h
  · rename_i v0 m0 he
    simp only [Option.some.injEq, Prod.mk.injEq] at h
    obtain ⟨rfl, rfl⟩ := h
    obtain ⟨g1, g2⟩ := esim hP hw he
    exact ⟨g1, fun φ w a hm hb hρ => gives_of_eff (g2 φ w a.eval hm hb hρ)⟩
  · rename_i g args m0 he
    obtain ⟨g1, g2⟩ := esim hP hw he
    have hm0 : m0 = m ∨ True := .inr trivial
    obtain ⟨q1, q2⟩ := hc g args m0 v m' h g1.2
    refine ⟨⟨Nat.le_trans g1.1 q1.1, q1.2⟩, fun φ w a hm hb hρ K Q hK => ?_⟩
    obtain ⟨rfl, args', hr, hv⟩ := g2 φ w a.eval hm hb hρ
    unfold Oper.wp
    rw [hr]
    have := q2 φ w args'.toList hm hb hv
    refine Calls.mono this ?_
    rintro e w' ⟨v', φ', rfl, h1, h2, h3, h4⟩
    exact hK φ' w' v' h1 h2 h3 h4
  · cases h

theorem doAlc_sim {f : LF} {o : Oper} {m m' : LMem} {v : Value} (hw : WF m) (h : doAlc P f o m = some (v, m')) :
    (m.next ≤ m'.next ∧ WF m') ∧ ∀ φ w a, MR φ m.get w → Bd φ m.next → (∀ x ∈ o.op.operands.toList, VR φ (f.lev x) (a.eval x)) → Gives P o m m' v φ a w := by
  unfold doAlc at h
  split at h
  case h_2 => cases h
  rename_i v0 b ha
  simp only [Option.map_eq_some_iff, Prod.mk.injEq] at h
  obtain ⟨m1, hal, rfl, rfl⟩ := h
  obtain ⟨a1, a2, a3, a4⟩ := LMem.alloc_spec hw hal
  refine ⟨⟨by omega, a4⟩, fun φ w a hm hb hρ => gives_of_eff ?_⟩
  obtain ⟨v', obj, l, w0, g0, g1, g2, g3, g4⟩ := asim (P := P) (w := w) (hb.none (Nat.le_refl _)) hρ ha
  obtain ⟨e1, e2, e3, e4⟩ : w0.heap = w.heap ∧ w0.os = w.os ∧ w0.tape = w.tape ∧ w0.output = w.output := by rcases g0 with rfl | rfl <;> exact ⟨rfl, rfl, rfl, rfl⟩
  obtain ⟨q1, q2, q3, _, _⟩ := alloc_world (w0 := w0) hw hm hb hal e1 e2 e3 e4 g2 g4
  exact ⟨v', _, _, .inl g1, q1, g3, q2, q3⟩

theorem doOp_sim {X : ExtT} {call : CallT} (hP : POK P X) (hc : CallSound P call) {f : LF} {o : Oper} {m m' : LMem} {v : Value} (hw : WF m) (h : doOp P X call f o m = some (v, m')) :
    (m.next ≤ m'.next ∧ WF m') ∧ ∀ φ w a, MR φ m.get w → Bd φ m.next → (∀ x ∈ o.op.operands.toList, VR φ (f.lev x) (a.eval x)) → Gives P o m m' v φ a w := by
  unfold doOp at h
  cases he : isEff o.op with
  | true => simp only [he, cond_true] at h; exact doEff_sim hP hc hw h
  | false =>
    simp only [he, cond_false] at h
    cases hal : isAlcP P o.op with
    | true => simp only [hal, cond_true] at h; exact doAlc_sim hw h
    | false =>
      simp only [hal, cond_false, Option.map_eq_some_iff, Prod.mk.injEq] at h
      obtain ⟨v0, hq, rfl, rfl⟩ := h
      refine ⟨⟨Nat.le_refl _, hw⟩, fun φ w a hm hb hρ => gives_of_eff ?_⟩
      obtain ⟨v', g1, g2⟩ := qsim (P := P) hm.part hρ hq
      exact ⟨v', w, φ, .inl g1, Sim.refl _ φ w, g2, hm, hb⟩

theorem wanted_sim {φ : Phi} {f : LF} {a : Act} {ops : Array Oper} {o : Oper} (hd : ∀ j w d, o.guard = some (j, w) → (ops[j]?).bind (·.dst) = some d → VR φ (f.get d) (a.tmps.getD d undef)) (hsz : a.tmps.size = f.nt) :
    Region.wanted o (yielded ops a.tmps) = lwanted ops.toList o f := by
  unfold Region.wanted lwanted
  cases hg : o.guard with
  | none => rfl
  | some p =>
    obtain ⟨j, want⟩ := p
    simp only
    have hj : ops.toList[j]? = ops[j]? := by simp
    rw [hj]
    unfold yielded
    cases ho : ops[j]? with
    | none => simp
    | some oj =>
      simp only [Option.bind_some]
      cases hdst : oj.dst with
      | none => simp
      | some d =>
        have hv := hd j want d hg (by simp [ho, hdst])
        simp only [Option.bind_some]
        by_cases hlt : d < a.tmps.size
        · have hget : a.tmps.getD d undef = a.tmps[d] := by simp [hlt]
          rw [hget] at hv
          rw [Array.getElem?_eq_getElem hlt]
          generalize a.tmps[d] = y at hv
          generalize f.get d = x at hv
          cases hv <;> first
            | (simp; done)
            | (rename_i nn _ he; obtain ⟨kk, ii, hi⟩ := SymV.int nn; rw [he, hi]; simp)
        · have hle : a.tmps.size ≤ d := Nat.le_of_not_lt hlt
          rw [Array.getElem?_eq_none hle]
          rw [hsz] at hle
          simp [LF.get_ge hle, undef]

/-- the state behind a run, as the post must take it -/
def Ends (m m' : LMem) (f' : LF) (φ : Phi) (a : Act) (w : World) (Q : Act → World → Prop) : Prop :=
  ∀ φ' w' a', Sim m.next φ φ' w w' → FR φ' f' a' → MR φ' m'.get w' → Bd φ' m'.next → a'.defers = a.defers → Q a' w'

theorem put_defers (a : Act) (d : Option Nat) (v : Value) : (a.put d v).defers = a.defers := by
  have _s := SymT.tab
  cases d <;> rfl

theorem seq_sim {X : ExtT} {call : CallT} (hP : POK P X) (hc : CallSound P call) (ops : Array Oper) {Q : Exit → Act → World → Prop} (hok : ops.toList.all okOp = true) :
    ∀ (r : List Oper) (k : Nat) (f f' : LF) (m m' : LMem), ops.toList.drop k = r → runSeq P X call ops.toList r f m = some (f', m') → WF m →
      (m.next ≤ m'.next ∧ WF m') ∧ ∀ φ w a, MR φ m.get w → Bd φ m.next → FR φ f a → Ends m m' f' φ a w (Q .normal) → wpOps P ops Q (List.range' k r.length) a w := by
  intro r
  induction r with
  | nil =>
    intro k f f' m m' _ h hw
    simp only [runSeq, Option.some.injEq, Prod.mk.injEq] at h
    obtain ⟨rfl, rfl⟩ := h
    exact ⟨⟨Nat.le_refl _, hw⟩, fun φ w a hm hb hf hE => hE φ w a (Sim.refl _ φ w) hf hm hb rfl⟩
  | cons o r ih =>
    intro k f f' m m' hdrop h hw
    have hk : ops[k]? = some o := by
      have : ops.toList[k]? = some o := by
        have := congrArg List.head? hdrop
        rw [List.head?_drop] at this
        simpa using this
      simpa using this
    have hdrop' : ops.toList.drop (k + 1) = r := by
      rw [← List.drop_drop] at *
      rw [hdrop]; rfl
    have hoko : okOp o = true := List.all_eq_true.1 hok o (List.mem_of_getElem? (l := ops.toList) (i := k) (by simpa using hk))
    unfold runSeq at h
    have hwant : ∀ φ a, FR φ f a → Region.wanted o (yielded ops a.tmps) = lwanted ops.toList o f := fun φ a hf => wanted_sim (fun j w d _ _ => hf.val d) hf.size
    cases hwt : lwanted ops.toList o f with
    | true =>
      simp only [hwt, cond_true] at h
      split at h
      case h_2 => cases h
      rename_i v m1 hop
      split at h
      case h_2 => cases h
      rename_i f1 hput
      obtain ⟨g1, g2⟩ := doOp_sim hP hc hw hop
      obtain ⟨i1, i2⟩ := ih (k + 1) f1 f' m1 m' hdrop' h g1.2
      refine ⟨⟨Nat.le_trans g1.1 i1.1, i1.2⟩, fun φ w a hm hb hf hE => ?_⟩
      rw [List.length_cons, List.range'_succ]
      simp only [wpOps, hk, hwant φ a hf, hwt, if_true]
      left
      refine g2 φ w a hm hb (ops_ok hf hoko) _ _ fun φ1 w1 v1 hs hv hm1 hb1 => ?_
      refine i2 φ1 w1 _ hm1 hb1 ((hf.mono hs.ext).put hput hv) fun φ2 w2 a2 hs2 hf2 hm2 hb2 hd2 => ?_
      exact hE φ2 w2 a2 (hs.trans g1.1 hs2) hf2 hm2 hb2 (by rw [hd2, put_defers])
    | false =>
      simp only [hwt, cond_false] at h
      split at h
      case h_2 => cases h
      rename_i f1 hput
      obtain ⟨i1, i2⟩ := ih (k + 1) f1 f' m m' hdrop' h hw
      refine ⟨i1, fun φ w a hm hb hf hE => ?_⟩
      rw [List.length_cons, List.range'_succ]
      simp only [wpOps, hk, hwant φ a hf, hwt, Bool.false_eq_true, if_false]
      refine i2 φ w _ hm hb (hf.put hput VR.undef) fun φ2 w2 a2 hs2 hf2 hm2 hb2 hd2 => ?_
      exact hE φ2 w2 a2 hs2 hf2 hm2 hb2 (by rw [hd2, put_defers])
end
end Go.Eng
