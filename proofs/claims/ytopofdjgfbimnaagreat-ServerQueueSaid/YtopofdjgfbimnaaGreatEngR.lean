/- The engine is sound: code and calls. -/
import Derived.Test.YtopofdjgfbimnaaGreatEngQ
import Derived.LoopN
import Derived.Scope
namespace Go.Eng
variable [SymV] [SymT]
section
variable {P : Program} {X : ExtT} {call : CallT}

def xit : LX → Exit
  | .norm => .normal
  | .exit id => .exit id
  | .ret => .ret

theorem Ends.step {m m1 m' : LMem} {f' : LF} {φ φ1 : Phi} {a a1 : Act} {w w1 : World} {Q : Act → World → Prop} (hle : m.next ≤ m1.next) (hs : Sim m.next φ φ1 w w1) (hd : a1.defers = a.defers) (hE : Ends m m' f' φ a w Q) : Ends m1 m' f' φ1 a1 w1 Q := by
  have _s := SymT.tab
  have _s := SymT.tab
  exact
  fun φ2 w2 a2 hs2 hf2 hm2 hb2 hd2 => hE φ2 w2 a2 (hs.trans hle hs2) hf2 hm2 hb2 (hd2.trans hd)

/-- the run of code, by fuel -/
def ExecOK (P : Program) (X : ExtT) (call : CallT) (n : Nat) : Prop :=
  ∀ (c : Code) (f f' : LF) (m m' : LMem) (x : LX), exec P X call n c f m = some (x, f', m') → LFok f → WF m → (m.next ≤ m'.next ∧ WF m' ∧ LFok f') ∧
    ∀ φ w a, MR φ m.get w → Bd φ m.next → FR φ f a → ∀ Q : Exit → Act → World → Prop, Ends m m' f' φ a w (Q (xit x)) → c.wp P Q a w

def LoopOK (P : Program) (X : ExtT) (call : CallT) (n : Nat) : Prop :=
  ∀ (c : Code) (f f' : LF) (m m' : LMem) (x : LX), exec P X call n (.loop c) f m = some (x, f', m') → LFok f → WF m → (m.next ≤ m'.next ∧ WF m' ∧ LFok f') ∧
    ∀ φ w a, MR φ m.get w → Bd φ m.next → FR φ f a → ∀ Q : Exit → Act → World → Prop, Ends m m' f' φ a w (Q (xit x)) → Code.rounds P c Q n a w

theorem runSeq_ok {ops : List Oper} : ∀ {r : List Oper} {f f' : LF} {m m' : LMem}, runSeq P X call ops r f m = some (f', m') → LFok f → LFok f'
  | [], f, f', m, m', h, hf => by simp only [runSeq, Option.some.injEq, Prod.mk.injEq] at h; rw [← h.1]; exact hf
  | o :: r, f, f', m, m', h, hf => by
    unfold runSeq at h
    cases hw : lwanted ops o f with
    | true =>
      simp only [hw, cond_true] at h
      split at h
      case h_2 => cases h
      split at h
      case h_2 => cases h
      rename_i hp
      exact runSeq_ok h (hf.put hp).1
    | false =>
      simp only [hw, cond_false] at h
      split at h
      case h_2 => cases h
      rename_i hp
      exact runSeq_ok h (hf.put hp).1

theorem exec_sim (hP : POK P X) (hc : CallSound P call) : ∀ n, ExecOK P X call n ∧ LoopOK P X call n := by
  intro n
  induction n with
  | zero => exact ⟨fun c f f' m m' x h => by simp [exec] at h, fun c f f' m m' x h => by simp [exec] at h⟩
  | succ n ih =>
    obtain ⟨ihE, ihL⟩ := ih
    have hL : LoopOK P X call (n + 1) := by
      intro c f f' m m' x h hnt hw
      simp only [exec] at h
      split at h
      · rename_i f1 m1 h1
        obtain ⟨g1, g2⟩ := ihE c f f1 m m1 .norm h1 hnt hw
        obtain ⟨q1, q2⟩ := ihL c f1 f' m1 m' x h g1.2.2 g1.2.1
        refine ⟨⟨Nat.le_trans g1.1 q1.1, q1.2⟩, fun φ w a hm hb hf Q hE => ?_⟩
        rw [rounds_succ]
        exact g2 φ w a hm hb hf _ fun φ1 w1 a1 hs1 hf1 hm1 hb1 hd1 => q2 φ1 w1 a1 hm1 hb1 hf1 Q (hE.step g1.1 hs1 hd1)
      · rename_i hno
        obtain ⟨g1, g2⟩ := ihE c f f' m m' x h hnt hw
        refine ⟨g1, fun φ w a hm hb hf Q hE => ?_⟩
        rw [rounds_succ]
        refine g2 φ w a hm hb hf _ fun φ1 w1 a1 hs1 hf1 hm1 hb1 hd1 => ?_
        have := hE φ1 w1 a1 hs1 hf1 hm1 hb1 hd1
        cases x with
        | norm => exact absurd h (hno f' m')
        | exit id => exact this
        | ret => exact this
    refine ⟨?_, hL⟩
    intro c f f' m m' x h hnt hw
    cases c with
    | skip =>
      simp only [exec, Option.some.injEq, Prod.mk.injEq] at h
      obtain ⟨rfl, rfl, rfl⟩ := h
      exact ⟨⟨Nat.le_refl _, hw, hnt⟩, fun φ w a hm hb hf Q hE => wp_skip (hE φ w a (Sim.refl _ φ w) hf hm hb rfl)⟩
    | region id ops draw =>
      simp only [exec] at h
      cases draw with
      | true =>
        simp only [cond_true] at h
        cases hreg : regOK ops.toList with
        | false => simp only [hreg, cond_false] at h; cases h
        | true =>
          simp only [hreg, cond_true, Option.map_eq_some_iff, Prod.mk.injEq] at h
          obtain ⟨⟨f1, m1⟩, hrun, rfl, rfl, rfl⟩ := h
          obtain ⟨g1, g2⟩ := draw_sim hP hc hreg hnt hrun hw
          exact ⟨g1, fun φ w a hm hb hf Q hE => g2 φ w a hm hb hf hE⟩
      | false =>
        simp only [cond_false] at h
        cases hok : ops.toList.all okOp with
        | false => simp only [hok, cond_false] at h; cases h
        | true =>
          simp only [hok, cond_true, Option.map_eq_some_iff, Prod.mk.injEq] at h
          obtain ⟨⟨f1, m1⟩, hrun, rfl, rfl, rfl⟩ := h
          have hs := fun Q => seq_sim (Q := Q) hP hc ops hok ops.toList 0 f f1 m m1 (by simp) hrun hw
          refine ⟨⟨(hs fun _ _ _ => True).1.1, (hs fun _ _ _ => True).1.2, runSeq_ok hrun hnt⟩, fun φ w a hm hb hf Q hE => wp_region ?_⟩
          have := (hs Q).2 φ w a hm hb hf hE
          rw [← List.range_eq_range'] at this
          simpa using this
    | seq c1 c2 =>
      simp only [exec] at h
      split at h
      · rename_i f1 m1 h1
        obtain ⟨g1, g2⟩ := ihE c1 f f1 m m1 .norm h1 hnt hw
        obtain ⟨q1, q2⟩ := ihE c2 f1 f' m1 m' x h g1.2.2 g1.2.1
        refine ⟨⟨Nat.le_trans g1.1 q1.1, q1.2⟩, fun φ w a hm hb hf Q hE => wp_seq ?_⟩
        exact g2 φ w a hm hb hf _ fun φ1 w1 a1 hs1 hf1 hm1 hb1 hd1 => q2 φ1 w1 a1 hm1 hb1 hf1 Q (hE.step g1.1 hs1 hd1)
      · rename_i hno
        obtain ⟨g1, g2⟩ := ihE c1 f f' m m' x h hnt hw
        refine ⟨g1, fun φ w a hm hb hf Q hE => wp_seq ?_⟩
        refine g2 φ w a hm hb hf _ fun φ1 w1 a1 hs1 hf1 hm1 hb1 hd1 => ?_
        have := hE φ1 w1 a1 hs1 hf1 hm1 hb1 hd1
        cases x with
        | norm => exact absurd h (hno f' m')
        | exit id => exact this
        | ret => exact this
    | cond o c1 c2 =>
      have key : ∀ (t : Bool) (b : Code), (if t then c1 else c2) = b → okOperand o = true ∨ (∃ v, o = .const v) → f.lev o = .bool t → exec P X call n b f m = some (x, f', m') → (m.next ≤ m'.next ∧ WF m' ∧ LFok f') ∧
          ∀ φ w a, MR φ m.get w → Bd φ m.next → FR φ f a → ∀ Q : Exit → Act → World → Prop, Ends m m' f' φ a w (Q (xit x)) → (Code.cond o c1 c2).wp P Q a w := by
        intro t b hb' ho hl hr
        obtain ⟨g1, g2⟩ := ihE b f f' m m' x hr hnt hw
        refine ⟨g1, fun φ w a hm hb hf Q hE => wp_cond (t := t) ?_ (by rw [hb']; exact g2 φ w a hm hb hf Q hE)⟩
        rcases ho with ho | ⟨v, rfl⟩
        · have := hf.eval ho
          rw [hl] at this
          generalize a.eval o = y at this
          cases this; rfl
        · exact hl
      have hop : okOperand o = true ∨ (∃ v, o = .const v) ∨ ∃ g, o = .global g := by
        cases o with
        | tmp t => exact .inl rfl
        | const v => exact .inr (.inl ⟨v, rfl⟩)
        | global g => exact .inr (.inr ⟨g, rfl⟩)
        | func g => exact .inl rfl
      simp only [exec] at h
      split at h
      · cases h
      · rename_i hng
        have hop' : okOperand o = true ∨ (∃ v, o = .const v) := by
          rcases hop with h1 | h1 | ⟨g, h1⟩
          · exact .inl h1
          · exact .inr h1
          · exact absurd h1 (hng g)
        split at h
        · rename_i hl; exact key true c1 rfl hop' hl h
        · rename_i hl; exact key false c2 rfl hop' hl h
        · cases h
    | block id c =>
      simp only [exec] at h
      split at h
      · rename_i j f1 m1 h1
        obtain ⟨g1, g2⟩ := ihE c f f1 m m1 (.exit j) h1 hnt hw
        cases hj : Nat.beq j id with
        | true =>
          simp only [hj, cond_true, Option.some.injEq, Prod.mk.injEq] at h
          obtain ⟨rfl, rfl, rfl⟩ := h
          have := Nat.eq_of_beq_eq_true hj
          subst this
          refine ⟨g1, fun φ w a hm hb hf Q hE => wp_block (g2 φ w a hm hb hf _ fun φ1 w1 a1 hs1 hf1 hm1 hb1 hd1 => ?_)⟩
          simp only [xit, Exit.inBlock, if_true]
          exact hE φ1 w1 a1 hs1 hf1 hm1 hb1 hd1
        | false =>
          simp only [hj, cond_false, Option.some.injEq, Prod.mk.injEq] at h
          obtain ⟨rfl, rfl, rfl⟩ := h
          have hne : ¬ j = id := fun h0 => by rw [h0, Nat.beq_refl] at hj; cases hj
          refine ⟨g1, fun φ w a hm hb hf Q hE => wp_block (g2 φ w a hm hb hf _ fun φ1 w1 a1 hs1 hf1 hm1 hb1 hd1 => ?_)⟩
          simp only [xit, Exit.inBlock, if_neg hne]
          exact hE φ1 w1 a1 hs1 hf1 hm1 hb1 hd1
      · rename_i hno
        obtain ⟨g1, g2⟩ := ihE c f f' m m' x h hnt hw
        refine ⟨g1, fun φ w a hm hb hf Q hE => wp_block (g2 φ w a hm hb hf _ fun φ1 w1 a1 hs1 hf1 hm1 hb1 hd1 => ?_)⟩
        have := hE φ1 w1 a1 hs1 hf1 hm1 hb1 hd1
        cases x with
        | norm => exact this
        | exit j => exact absurd h (hno j f' m')
        | ret => exact this
    | loop c =>
      obtain ⟨g1, g2⟩ := hL c f f' m m' x h hnt hw
      exact ⟨g1, fun φ w a hm hb hf Q hE => wp_loop_rounds (n + 1) (g2 φ w a hm hb hf Q hE)⟩
    | exit id =>
      simp only [exec, Option.some.injEq, Prod.mk.injEq] at h
      obtain ⟨rfl, rfl, rfl⟩ := h
      exact ⟨⟨Nat.le_refl _, hw, hnt⟩, fun φ w a hm hb hf Q hE => wp_exit (hE φ w a (Sim.refl _ φ w) hf hm hb rfl)⟩
    | ret =>
      simp only [exec, Option.some.injEq, Prod.mk.injEq] at h
      obtain ⟨rfl, rfl, rfl⟩ := h
      exact ⟨⟨Nat.le_refl _, hw, hnt⟩, fun φ w a hm hb hf Q hE => wp_ret (hE φ w a (Sim.refl _ φ w) hf hm hb rfl)⟩
    | rangeFunc _ _ _ _ => simp [exec] at h
    | scope c =>
      simp only [exec] at h
      obtain ⟨g1, g2⟩ := ihE c f f' m m' x h hnt hw
      refine ⟨g1, fun φ w a hm hb hf Q hE => wp_scope_straight (g2 φ w a hm hb hf _ fun φ1 w1 a1 hs1 hf1 hm1 hb1 hd1 => ?_)⟩
      have := hE φ1 w1 a1 hs1 hf1 hm1 hb1 hd1
      cases x with
      | norm => exact this
      | exit j => exact this
      | ret => exact this
    | label _ =>
      simp only [exec, Option.some.injEq, Prod.mk.injEq] at h
      obtain ⟨rfl, rfl, rfl⟩ := h
      exact ⟨⟨Nat.le_refl _, hw, hnt⟩, fun φ w a hm hb hf Q hE => wp_label (hE φ w a (Sim.refl _ φ w) hf hm hb rfl)⟩
    | goto _ => simp [exec] at h
    | refuse _ => simp [exec] at h

/- results -/
theorem results_sim {f : LF} {m : LMem} {w : World} {a : Act} {φ : Phi} {G : ResultVar → Sem Value} (hG1 : ∀ t, G (.tmp t) = pure (a.tmps.getD t undef))
    (hG2 : ∀ x t, G (.cell x t) = do loadVar t (← asAddr (a.tmps.getD x undef))) (hm : MR φ m.get w) (hf : FR φ f a) : ∀ (rs : List ResultVar) (vs : List Value), lresults P f m rs = some vs →
    ∃ vs', (rs.mapM G).run P w = .ok vs' w ∧ VRL φ vs vs' := by
  intro rs
  induction rs with
  | nil => intro vs h; simp [lresults] at h; subst h; exact ⟨[], rfl, .nil⟩
  | cons r rs ih =>
    intro vs h
    cases r with
    | tmp t =>
      simp only [lresults, Option.map_eq_some_iff] at h
      obtain ⟨vs0, h0, rfl⟩ := h
      obtain ⟨vs', g1, g2⟩ := ih vs0 h0
      exact ⟨a.tmps.getD t undef :: vs', by simp only [List.mapM_cons, hG1, Sem.run_bind, Sem.run_pure, Result.andThen_ok, g1], .cons _ _ _ _ (hf.val t) g2⟩
    | cell x t =>
      simp only [lresults] at h
      split at h
      case h_2 => cases h
      rename_i b off hx
      split at h
      case h_2 => cases h
      rename_i c hc
      split at h
      case h_2 => cases h
      rename_i v hv
      simp only [Option.map_eq_some_iff] at h
      obtain ⟨vs0, h0, rfl⟩ := h
      obtain ⟨vs', g1, g2⟩ := ih vs0 h0
      have hval := hf.val x
      rw [hx] at hval
      obtain ⟨l, hl, hy, hbr⟩ := ptr_cells hm.part hval hc
      obtain ⟨v', k1, k2⟩ := load_sim (P := P) hbr hv
      refine ⟨v' :: vs', ?_, .cons _ _ _ _ k2 g2⟩
      have ha : (asAddr (a.tmps.getD x undef)).run P w = .ok ⟨l.b, l.sh + off, none⟩ w := by rw [hy]; rfl
      simp only [List.mapM_cons, hG2, Sem.run_bind, ha, Sem.run_pure, Result.andThen_ok, k1, g1]

theorem tuple_sim {φ : Phi} {vs vs' : List Value} (h : VRL φ vs vs') : VR φ (ltuple vs) (if h : (⟨vs'⟩ : Array Value).size = 1 then (⟨vs'⟩ : Array Value)[0] else .tuple ⟨vs'⟩) := by
  have _s := SymT.tab
  cases h with
  | nil => exact .tuple _ _ .nil
  | cons x y xs ys h1 h2 =>
    cases h2 with
    | nil => simpa [ltuple] using h1
    | cons x2 y2 xs2 ys2 h3 h4 =>
      have : ¬ (⟨y :: y2 :: ys2⟩ : Array Value).size = 1 := by simp
      rw [dif_neg this]
      exact .tuple _ _ (.cons _ _ _ _ h1 (.cons _ _ _ _ h3 h4))

theorem putArgs_get : ∀ (args : List Value) (i : Nat) (t : TF Value) (k : Nat), i + args.length ≤ 256 → k < 256 → TF.get (putArgs args i t) k = if i ≤ k ∧ k < i + args.length then args[k - i]? else TF.get t k
  | [], i, t, k, _, _ => by have _s := SymT.tab; have _s := SymT.tab; simp [putArgs]; intro h1 h2; omega
  | v :: r, i, t, k, h, hk => by
    simp only [List.length_cons] at h
    rw [putArgs, putArgs_get r (i + 1) _ k (by omega) hk]
    simp only [List.length_cons]
    by_cases h1 : i + 1 ≤ k ∧ k < i + 1 + r.length
    · rw [if_pos h1, if_pos (by omega), show k - i = (k - (i + 1)) + 1 by omega]; simp
    · rw [if_neg h1, TF.get_set, Nat.mod_eq_of_lt (by omega), Nat.mod_eq_of_lt hk]
      by_cases h2 : i = k
      · subst h2; rw [if_pos rfl, if_pos (by omega)]; simp
      · rw [if_neg h2, if_neg (by omega)]

theorem start_frame {φ : Phi} {args args' : List Value} {nt : Nat} (h : VRL φ args args') (h1 : args.length ≤ nt) (h2 : nt ≤ 256) :
    FR φ { tr := putArgs args 0 (TF.lf none), nt := nt } { tmps := (⟨args'⟩ : Array Value) ++ Array.replicate (nt - (⟨args'⟩ : Array Value).size) undef, defers := [] } := by
  have hl := h.length
  have hsz : ((⟨args'⟩ : Array Value)).size = args'.length := by simp
  refine ⟨by simp; omega, ⟨h2⟩, fun i => ?_⟩
  by_cases hi : i < nt
  · have hg : LF.get { tr := putArgs args 0 (TF.lf none), nt := nt } i = (if i < args.length then args[i]? else none).getD undef := by
      rw [LF.get_lt (by exact hi)]
      show (TF.get (putArgs args 0 (TF.lf none)) i).getD undef = _
      rw [putArgs_get args 0 (TF.lf none) i (by omega) (by omega), TF.get_lf]
      simp
    rw [hg]
    by_cases hia : i < args.length
    · rw [if_pos hia]
      obtain ⟨y, k1, k2⟩ := h.get (List.getElem?_eq_getElem hia)
      rw [List.getElem?_eq_getElem hia]
      have : ((⟨args'⟩ : Array Value) ++ Array.replicate (nt - (⟨args'⟩ : Array Value).size) undef).getD i undef = y := by
        have hia' : i < args'.length := by omega
        rw [List.getElem?_eq_getElem hia'] at k1
        simp only [Option.some.injEq] at k1
        simp [Array.getElem?_append_left, hia', k1]
      rw [this]; exact k2
    · rw [if_neg hia]
      have : ((⟨args'⟩ : Array Value) ++ Array.replicate (nt - (⟨args'⟩ : Array Value).size) undef).getD i undef = undef := by
        have hia' : args'.length ≤ i := by omega
        simp [Array.getElem?_append_right, hia', Array.getElem?_replicate]
        split <;> rfl
      rw [this]; exact VR.undef
  · have hg : LF.get { tr := putArgs args 0 (TF.lf none), nt := nt } i = undef := LF.get_ge (by show nt ≤ i; omega)
    rw [hg]
    have : ((⟨args'⟩ : Array Value) ++ Array.replicate (nt - (⟨args'⟩ : Array Value).size) undef).getD i undef = undef := by
      have : ((⟨args'⟩ : Array Value) ++ Array.replicate (nt - (⟨args'⟩ : Array Value).size) undef).size ≤ i := by simp; omega
      rw [Array.getD_eq_getD_getElem?, Array.getElem?_eq_none this]; rfl
    rw [this]; exact VR.undef

/-- what a primitive must give -/
def PrimOK (P : Program) (prim : FuncId → Option (List Value → LMem → Option (Value × LMem))) : Prop :=
  ∀ g p, prim g = some p → ∀ args m v m', p args m = some (v, m') → WF m → (m.next ≤ m'.next ∧ WF m') ∧
    ∀ φ w args', MR φ m.get w → Bd φ m.next → VRL φ args args' → Calls P g ⟨args'⟩ w (CallPost m m' v φ w)

theorem call_sound (hP : POK P X) {prim : FuncId → Option (List Value → LMem → Option (Value × LMem))} (hp : PrimOK P prim) (fuel : Nat) : ∀ n, CallSound P (callF P X prim fuel n) := by
  intro n
  induction n with
  | zero => intro g args m v m' h; simp [callF] at h
  | succ n ih =>
    intro g args m v m' h hw
    simp only [callF] at h
    split at h
    · rename_i p hpg
      exact hp g p hpg args m v m' h hw
    · split at h
      · cases h
      · rename_i fn hfn
        split at h
        · cases h
        · rename_i c hbody
          cases hq : (Nat.ble args.length fn.ntmps && Nat.ble fn.ntmps 256) with
          | false => simp only [hq, cond_false] at h; cases h
          | true =>
            simp only [hq, cond_true] at h
            rw [Bool.and_eq_true] at hq
            have hq1 := Nat.le_of_ble_eq_true hq.1
            have hq2 := Nat.le_of_ble_eq_true hq.2
            have hE := (exec_sim hP ih fuel).1
            have key : ∀ (x : LX) (f' : LF) (m1 : LMem), (x = .norm ∨ x = .ret) → exec P X (callF P X prim fuel n) fuel c { tr := putArgs args 0 (TF.lf none), nt := fn.ntmps } m = some (x, f', m1) →
                (lresults P f' m1 fn.results.toList).map (fun vs => (ltuple vs, m1)) = some (v, m') →
                (m.next ≤ m'.next ∧ WF m') ∧ ∀ φ w args', MR φ m.get w → Bd φ m.next → VRL φ args args' → Calls P g ⟨args'⟩ w (CallPost m m' v φ w) := by
              intro x f' m1 hx hrun hres
              simp only [Option.map_eq_some_iff, Prod.mk.injEq] at hres
              obtain ⟨vs, hvs, rfl, rfl⟩ := hres
              obtain ⟨g1, g2⟩ := hE c _ f' m m1 x hrun ⟨hq2⟩ hw
              refine ⟨⟨g1.1, g1.2.1⟩, fun φ w args' hm hb hargs => calls_of_wp hfn hbody ?_⟩
              refine g2 φ w _ hm hb (start_frame hargs hq1 hq2) _ fun φ1 w1 a1 hs1 hf1 hm1 hb1 hd1 => ?_
              obtain ⟨vs', k1, k2⟩ := results_sim (P := P) (G := fun
                | .tmp t => pure (a1.tmps.getD t undef)
                | .cell x t => do loadVar t (← asAddr (a1.tmps.getD x undef))) (fun _ => rfl) (fun _ _ => rfl) hm1 hf1 fn.results.toList vs hvs
              have hpost : a1.defers = [] ∧ ∃ v', (results fn a1.tmps).run P w1 = .ok v' w1 ∧ CallPost m m1 (ltuple vs) φ w (.returned v') w1 := by
                refine ⟨hd1, _, ?_, _, φ1, rfl, hs1, tuple_sim k2, hm1, hb1⟩
                unfold results
                rw [Sem.run_bind, Array.mapM_eq_mapM_toList, Sem.run_map]
                refine Eq.trans (congrArg (fun r => Result.andThen (Result.andThen r _) _) (Eq.trans ?_ k1)) rfl
                rfl
              rcases hx with rfl | rfl
              · exact hpost
              · exact hpost
            split at h
            · rename_i f' m1 hrun; exact key .norm f' m1 (.inl rfl) hrun h
            · rename_i f' m1 hrun; exact key .ret f' m1 (.inr rfl) hrun h
            · cases h
end
end Go.Eng
