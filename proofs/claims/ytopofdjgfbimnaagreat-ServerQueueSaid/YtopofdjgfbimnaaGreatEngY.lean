/- Panics, and functions that defer a call which recovers. -/
import Derived.Test.YtopofdjgfbimnaaGreatEngX
import Derived.Recover
namespace Go.Eng
section
variable [SymV] [SymT] {P : Program} {X : ExtT} {call pcall : CallT}

/-- operations one after the other, the last of which panics -/
noncomputable def pSeq (P : Program) (X : ExtT) (call pcall : CallT) (ops : List Oper) : List Oper → LF → LMem → Option (Value × LF × LMem)
  | [], _, _ => none
  | o :: r, f, m =>
    bif lwanted ops o f then
      match doOp P X call f o m with
      | some (v, m') => match f.put o.dst v with
        | some f' => pSeq P X call pcall ops r f' m'
        | none => none
      | none => match o.op with
        | .panic x => match f.lev x with
          | .iface t v => some (.iface t v, f, m)
          | _ => none
        | _ => match eop P X f.lev o m with
          | some (.enter g args, m') => match pcall g args m' with
            | some (v, m'') => some (v, f, m'')
            | none => none
          | _ => none
    else match f.put o.dst undef with
      | some f' => pSeq P X call pcall ops r f' m
      | none => none

noncomputable def pexec (P : Program) (X : ExtT) (call pcall : CallT) : Nat → Code → LF → LMem → Option (Value × LF × LMem)
  | 0, _, _, _ => none
  | n + 1, c, f, m =>
    match c with
    | .region _ ops draw => bif draw then none else bif ops.toList.all okOp then pSeq P X call pcall ops.toList ops.toList f m else none
    | .seq a b => match exec P X call n a f m with
      | some (.norm, f', m') => pexec P X call pcall n b f' m'
      | some _ => none
      | none => pexec P X call pcall n a f m
    | .cond x a b => match x with
      | .tmp t => match f.get t with
        | .bool true => pexec P X call pcall n a f m
        | .bool false => pexec P X call pcall n b f m
        | _ => none
      | _ => none
    | .block _ a => pexec P X call pcall n a f m
    | _ => none

noncomputable def pcallF (P : Program) (X : ExtT) (prim : FuncId → Option (List Value → LMem → Option (Value × LMem))) (fuel : Nat) : Nat → CallT
  | 0, _, _, _ => none
  | n + 1, g, args, m =>
    match P.funcs[g]? with
    | none => none
    | some fn => match fn.body with
      | none => none
      | some c =>
        bif Nat.ble args.length fn.ntmps && Nat.ble fn.ntmps 256 then
          match pexec P X (callF P X prim fuel n) (pcallF P X prim fuel n) fuel c { tr := putArgs args 0 (TF.lf none), nt := fn.ntmps } m with
          | some (v, _, m') => some (v, m')
          | none => none
        else none

def PanPost (m m' : LMem) (v : Value) (φ : Phi) (w : World) (e : Ending) (w' : World) : Prop :=
  ∃ v' φ', e = .panicked [{ v := v', recovered := false }] ∧ Sim m.next φ φ' w w' ∧ VR φ' v v' ∧ MR φ' m'.get w' ∧ Bd φ' m'.next

def PCallSound (P : Program) (pcall : CallT) : Prop :=
  ∀ g args m v m', pcall g args m = some (v, m') → WF m → (m.next ≤ m'.next ∧ WF m') ∧
    ∀ φ w args', MR φ m.get w → Bd φ m.next → VRL φ args args' → Calls P g ⟨args'⟩ w (PanPost m m' v φ w)

def PEnds (m m' : LMem) (v : Value) (f' : LF) (φ : Phi) (a : Act) (w : World) (Q : Exit → Act → World → Prop) : Prop :=
  ∀ φ' w' a' v', Sim m.next φ φ' w w' → FR φ' f' a' → MR φ' m'.get w' → Bd φ' m'.next → a'.defers = a.defers → VR φ' v v' → Q (.panic [{ v := v', recovered := false }]) a' w'

theorem PEnds.step {m m1 m' : LMem} {v : Value} {f' : LF} {φ φ1 : Phi} {a a1 : Act} {w w1 : World} {Q : Exit → Act → World → Prop} (hle : m.next ≤ m1.next) (hs : Sim m.next φ φ1 w w1) (hd : a1.defers = a.defers) (hE : PEnds m m' v f' φ a w Q) : PEnds m1 m' v f' φ1 a1 w1 Q := by
  have _s := SymT.tab
  have _s := SymT.tab
  exact
  fun φ2 w2 a2 v2 hs2 hf2 hm2 hb2 hd2 hv2 => hE φ2 w2 a2 v2 (hs.trans hle hs2) hf2 hm2 hb2 (hd2.trans hd) hv2

theorem pSeq_sim (hP : POK P X) (hc : CallSound P call) (hpc : PCallSound P pcall) (ops : Array Oper) {Q : Exit → Act → World → Prop} (hok : ops.toList.all okOp = true) :
    ∀ (r : List Oper) (k : Nat) (f f' : LF) (m m' : LMem) (v : Value), ops.toList.drop k = r → pSeq P X call pcall ops.toList r f m = some (v, f', m') → WF m → LFok f →
      (m.next ≤ m'.next ∧ WF m' ∧ LFok f') ∧ ∀ φ w a, MR φ m.get w → Bd φ m.next → FR φ f a → PEnds m m' v f' φ a w Q → wpOps P ops Q (List.range' k r.length) a w := by
  intro r
  induction r with
  | nil => intro k f f' m m' v _ h; simp [pSeq] at h
  | cons o r ih =>
    intro k f f' m m' v hdrop h hw hlf
    have hk : ops[k]? = some o := by
      have : ops.toList[k]? = some o := by
        have := congrArg List.head? hdrop
        rw [List.head?_drop] at this
        simpa using this
      simpa using this
    have hdrop' : ops.toList.drop (k + 1) = r := by
      rw [← List.drop_drop] at *
      rw [hdrop]; rfl
    have hoko : okOp o = true := List.all_eq_true.1 hok o (List.mem_of_getElem? (l := ops.toList) (i := k) (by simpa using hk))
    unfold pSeq at h
    have hwant : ∀ φ a, FR φ f a → Region.wanted o (yielded ops a.tmps) = lwanted ops.toList o f := fun φ a hf => wanted_sim (fun j w d _ _ => hf.val d) hf.size
    have hput : ∀ {d : Option Nat} {u : Value} {f1 : LF}, f.put d u = some f1 → LFok f1 := by
      intro d u f1 hp
      unfold LF.put at hp
      split at hp
      · cases hp; exact hlf
      · split at hp
        rename_i tr nt
        cases hb : Nat.blt _ nt with
        | false => rw [hb] at hp; cases hp
        | true => rw [hb] at hp; cases hp; exact ⟨hlf.1⟩
    cases hwt : lwanted ops.toList o f with
    | true =>
      simp only [hwt, cond_true] at h
      split at h
      · rename_i u m1 hop
        split at h
        case h_2 => cases h
        rename_i f1 hp1
        obtain ⟨g1, g2⟩ := doOp_sim hP hc hw hop
        obtain ⟨i1, i2⟩ := ih (k + 1) f1 f' m1 m' v hdrop' h g1.2 (hput hp1)
        refine ⟨⟨Nat.le_trans g1.1 i1.1, i1.2⟩, fun φ w a hm hb hf hE => ?_⟩
        rw [List.length_cons, List.range'_succ]
        simp only [wpOps, hk, hwant φ a hf, hwt, if_true]
        left
        refine g2 φ w a hm hb (ops_ok hf hoko) _ _ fun φ1 w1 v1 hs hv hm1 hb1 => ?_
        exact i2 φ1 w1 _ hm1 hb1 ((hf.mono hs.ext).put hp1 hv) (hE.step g1.1 hs (put_defers _ _ _))
      · split at h
        · rename_i x hx
          split at h
          case h_2 => cases h
          rename_i t u hl
          simp only [Option.some.injEq, Prod.mk.injEq] at h
          obtain ⟨rfl, rfl, rfl⟩ := h
          refine ⟨⟨Nat.le_refl _, hw, hlf⟩, fun φ w a hm hb hf hE => ?_⟩
          rw [List.length_cons, List.range'_succ]
          simp only [wpOps, hk, hwant φ a hf, hwt, if_true]
          left
          have hv := ops_ok hf hoko x (by simp [hx, Op.operands])
          rw [hl] at hv
          generalize hq : a.eval x = q at hv
          cases hv with
          | iface _ _ y hy =>
            have hr : (execOp a.eval o).run P w = .halt (.panic (.iface t y)) w := by
              simp [execOp, hx, hq, Instr.panic, goPanic]
            unfold Oper.wp
            rw [hr]
            exact hE φ w a _ (Sim.refl _ φ w) hf hm hb rfl (.iface t u y hy)
        · rename_i hnp
          split at h
          · rename_i g args m1 he
            split at h
            case h_2 => cases h
            rename_i u m2 hpc'
            simp only [Option.some.injEq, Prod.mk.injEq] at h
            obtain ⟨rfl, rfl, rfl⟩ := h
            obtain ⟨g1, g2⟩ := esim hP hw he
            obtain ⟨q1, q2⟩ := hpc g args m1 u m2 hpc' g1.2
            refine ⟨⟨Nat.le_trans g1.1 q1.1, q1.2, hlf⟩, fun φ w a hm hb hf hE => ?_⟩
            rw [List.length_cons, List.range'_succ]
            simp only [wpOps, hk, hwant φ a hf, hwt, if_true]
            left
            obtain ⟨rfl, args', hr, hv⟩ := g2 φ w a.eval hm hb (ops_ok hf hoko)
            unfold Oper.wp
            rw [hr]
            have := q2 φ w args'.toList hm hb hv
            refine Calls.mono this ?_
            rintro e w' ⟨v', φ', rfl, h1, h2, h3, h4⟩
            exact hE φ' w' a v' h1 (hf.mono h1.ext) h3 h4 rfl h2
          · cases h
    | false =>
      simp only [hwt, cond_false] at h
      split at h
      case h_2 => cases h
      rename_i f1 hp1
      obtain ⟨i1, i2⟩ := ih (k + 1) f1 f' m m' v hdrop' h hw (hput hp1)
      refine ⟨i1, fun φ w a hm hb hf hE => ?_⟩
      rw [List.length_cons, List.range'_succ]
      simp only [wpOps, hk, hwant φ a hf, hwt, Bool.false_eq_true, if_false]
      exact i2 φ w _ hm hb (hf.put hp1 VR.undef) (hE.step (Nat.le_refl _) (Sim.refl _ φ w) (put_defers _ _ _))

theorem pexec_sim (hP : POK P X) (hc : CallSound P call) (hpc : PCallSound P pcall) : ∀ (n : Nat) (c : Code) (f f' : LF) (m m' : LMem) (v : Value), pexec P X call pcall n c f m = some (v, f', m') → LFok f → WF m →
    (m.next ≤ m'.next ∧ WF m' ∧ LFok f') ∧ ∀ φ w a, MR φ m.get w → Bd φ m.next → FR φ f a → ∀ Q : Exit → Act → World → Prop, PEnds m m' v f' φ a w Q → c.wp P Q a w := by
  intro n
  induction n with
  | zero => intro c f f' m m' v h; simp [pexec] at h
  | succ n ih =>
    intro c f f' m m' v h hlf hw
    cases c with
    | region id ops draw =>
      simp only [pexec] at h
      cases draw with
      | true => simp only [cond_true] at h; cases h
      | false =>
        simp only [cond_false] at h
        cases hok : ops.toList.all okOp with
        | false => simp only [hok, cond_false] at h; cases h
        | true =>
          simp only [hok, cond_true] at h
          have hs := fun Q => pSeq_sim (Q := Q) hP hc hpc ops hok ops.toList 0 f f' m m' v (by simp) h hw hlf
          refine ⟨(hs fun _ _ _ => True).1, fun φ w a hm hb hf Q hE => wp_region ?_⟩
          have := (hs Q).2 φ w a hm hb hf hE
          rw [← List.range_eq_range'] at this
          simpa using this
    | seq c1 c2 =>
      simp only [pexec] at h
      split at h
      · rename_i f1 m1 h1
        obtain ⟨g1, g2⟩ := (exec_sim hP hc n).1 c1 f f1 m m1 .norm h1 hlf hw
        obtain ⟨q1, q2⟩ := ih c2 f1 f' m1 m' v h g1.2.2 g1.2.1
        refine ⟨⟨Nat.le_trans g1.1 q1.1, q1.2⟩, fun φ w a hm hb hf Q hE => wp_seq ?_⟩
        exact g2 φ w a hm hb hf _ fun φ1 w1 a1 hs1 hf1 hm1 hb1 hd1 => q2 φ1 w1 a1 hm1 hb1 hf1 Q (hE.step g1.1 hs1 hd1)
      · cases h
      · obtain ⟨g1, g2⟩ := ih c1 f f' m m' v h hlf hw
        refine ⟨g1, fun φ w a hm hb hf Q hE => wp_seq ?_⟩
        exact g2 φ w a hm hb hf _ fun φ1 w1 a1 v1 hs1 hf1 hm1 hb1 hd1 hv1 => hE φ1 w1 a1 v1 hs1 hf1 hm1 hb1 hd1 hv1
    | cond o c1 c2 =>
      simp only [pexec] at h
      split at h
      · rename_i t
        have key : ∀ (b : Bool) (c : Code), (if b then c1 else c2) = c → f.get t = .bool b → pexec P X call pcall n c f m = some (v, f', m') → (m.next ≤ m'.next ∧ WF m' ∧ LFok f') ∧
            ∀ φ w a, MR φ m.get w → Bd φ m.next → FR φ f a → ∀ Q : Exit → Act → World → Prop, PEnds m m' v f' φ a w Q → (Code.cond (.tmp t) c1 c2).wp P Q a w := by
          intro b c hb' hl hr
          obtain ⟨g1, g2⟩ := ih c f f' m m' v hr hlf hw
          refine ⟨g1, fun φ w a hm hb hf Q hE => wp_cond (t := b) ?_ (by rw [hb']; exact g2 φ w a hm hb hf Q hE)⟩
          have := hf.eval (x := .tmp t) rfl
          have hl' : f.lev (.tmp t) = .bool b := hl
          rw [hl'] at this
          generalize a.eval (.tmp t) = y at this
          cases this; rfl
        split at h
        · rename_i hl; exact key true c1 rfl hl h
        · rename_i hl; exact key false c2 rfl hl h
        · cases h
      · cases h
    | block id c =>
      simp only [pexec] at h
      obtain ⟨g1, g2⟩ := ih c f f' m m' v h hlf hw
      refine ⟨g1, fun φ w a hm hb hf Q hE => wp_block (g2 φ w a hm hb hf _ fun φ1 w1 a1 v1 hs1 hf1 hm1 hb1 hd1 hv1 => ?_)⟩
      exact hE φ1 w1 a1 v1 hs1 hf1 hm1 hb1 hd1 hv1
    | _ => simp [pexec] at h

theorem pcall_sound (hP : POK P X) {prim : FuncId → Option (List Value → LMem → Option (Value × LMem))} (hp : PrimOK P prim) (fuel : Nat) : ∀ n, PCallSound P (pcallF P X prim fuel n) := by
  intro n
  induction n with
  | zero => intro g args m v m' h; simp [pcallF] at h
  | succ n ih =>
    intro g args m v m' h hw
    simp only [pcallF] at h
    split at h
    · cases h
    · rename_i fn hfn
      split at h
      · cases h
      · rename_i c hbody
        cases hq : (Nat.ble args.length fn.ntmps && Nat.ble fn.ntmps 256) with
        | false => simp only [hq, cond_false] at h; cases h
        | true =>
          simp only [hq, cond_true] at h
          rw [Bool.and_eq_true] at hq
          have hq1 := Nat.le_of_ble_eq_true hq.1
          have hq2 := Nat.le_of_ble_eq_true hq.2
          split at h
          · rename_i u f' m1 hrun
            simp only [Option.some.injEq, Prod.mk.injEq] at h
            obtain ⟨rfl, rfl⟩ := h
            obtain ⟨g1, g2⟩ := pexec_sim hP (call_sound hP hp fuel n) ih fuel c _ f' m m1 u hrun ⟨hq2⟩ hw
            refine ⟨⟨g1.1, g1.2.1⟩, fun φ w args' hm hb hargs => calls_of_wp hfn hbody ?_⟩
            refine g2 φ w _ hm hb (start_frame hargs hq1 hq2) _ fun φ1 w1 a1 v1 hs1 hf1 hm1 hb1 hd1 hv1 => ?_
            exact ⟨hd1, v1, φ1, rfl, hs1, hv1, hm1, hb1⟩
          · cases h

/-- a function that defers a call of one argument, behind its first statement -/
def dshape (c : Code) : Option (Code × FuncId × Nat × Code) :=
  match c with
  | .seq a (.seq (.region _ ops false) b) => match ops.toList with
    | [⟨none, .defer ⟨.value (.func g), args, _⟩, _, _, _, none⟩] => match args.toList with
      | [.tmp x] => some (a, g, x, b)
      | _ => none
    | _ => none
  | _ => none

theorem dshape_is {c a b : Code} {g : FuncId} {x : Nat} (h : dshape c = some (a, g, x, b)) :
    ∃ id tys ty pos after, c = .seq a (.seq (.region id #[⟨none, .defer ⟨.value (.func g), #[.tmp x], tys⟩, ty, pos, after, none⟩] false) b) := by
  have _s := SymT.tab
  unfold dshape at h
  split at h
  · rename_i a0 id ops b0
    split at h
    · rename_i g0 args tys ty pos after ho
      split at h
      · rename_i x0 ha
        simp only [Option.some.injEq, Prod.mk.injEq] at h
        obtain ⟨rfl, rfl, rfl, rfl⟩ := h
        have hops : ops = #[⟨none, .defer ⟨.value (.func g0), args, tys⟩, ty, pos, after, none⟩] := Array.ext' ho
        have hargs : args = #[.tmp x0] := Array.ext' ha
        subst hargs
        exact ⟨id, tys, ty, pos, after, by rw [hops]⟩
      · cases h
    · cases h
  · cases h

/-- a function that asks 'recover' first -/
def rshape (c : Code) : Option (Nat × Code) :=
  match c with
  | .seq (.region _ ops false) b => match ops.toList with
    | [⟨some d, .call ⟨.builtin .recover, args, _⟩, _, _, _, none⟩] => match args.toList with
      | [] => some (d, b)
      | _ => none
    | _ => none
  | _ => none

theorem rshape_is {c b : Code} {d : Nat} (h : rshape c = some (d, b)) :
    ∃ id tys ty pos after, c = .seq (.region id #[⟨some d, .call ⟨.builtin .recover, #[], tys⟩, ty, pos, after, none⟩] false) b := by
  have _s := SymT.tab
  unfold rshape at h
  split at h
  · rename_i id ops b0
    split at h
    · rename_i d0 args tys ty pos after ho
      split at h
      · rename_i ha
        simp only [Option.some.injEq, Prod.mk.injEq] at h
        obtain ⟨rfl, rfl⟩ := h
        have hops : ops = #[⟨some d0, .call ⟨.builtin .recover, args, tys⟩, ty, pos, after, none⟩] := Array.ext' ho
        have hargs : args = #[] := Array.ext' ha
        subst hargs
        exact ⟨id, tys, ty, pos, after, by rw [hops]⟩
      · cases h
    · cases h
  · cases h

/-- the deferred call: 'r' is what its 'recover' gives -/
noncomputable def dtail (P : Program) (X : ExtT) (call : CallT) (fuel : Nat) (gd : FuncId) (arg r : Value) (m : LMem) : Option LMem :=
  match P.funcs[gd]? with
  | none => none
  | some fd => match fd.body with
    | none => none
    | some cd => match rshape cd with
      | none => none
      | some (d, D) =>
        bif Nat.ble 1 fd.ntmps && Nat.ble fd.ntmps 256 then
          match LF.put { tr := putArgs [arg] 0 (TF.lf none), nt := fd.ntmps } (some d) r with
          | none => none
          | some f0 => match exec P X call fuel D f0 m with
            | some (.norm, f1, m1) => (lresults P f1 m1 fd.results.toList).map fun _ => m1
            | some (.ret, f1, m1) => (lresults P f1 m1 fd.results.toList).map fun _ => m1
            | _ => none
        else none

noncomputable def dend (P : Program) (X : ExtT) (call : CallT) (fuel : Nat) (gd : FuncId) (arg r : Value) (rs : List ResultVar) (f : LF) (m : LMem) : Option (Value × LMem) :=
  match dtail P X call fuel gd arg r m with
  | none => none
  | some m' => (lresults P f m' rs).map fun vs => (ltuple vs, m')

noncomputable def dcall (P : Program) (X : ExtT) (call pcall : CallT) (fuel : Nat) (g : FuncId) (args : List Value) (m : LMem) : Option (Value × LMem) :=
  match P.funcs[g]? with
  | none => none
  | some fn => match fn.body with
    | none => none
    | some c => match dshape c with
      | none => none
      | some (A, gd, x, B) =>
        bif Nat.ble args.length fn.ntmps && Nat.ble fn.ntmps 256 then
          match exec P X call fuel A { tr := putArgs args 0 (TF.lf none), nt := fn.ntmps } m with
          | some (.norm, f1, m1) => match exec P X call fuel B f1 m1 with
            | some (.norm, f2, m2) => dend P X call fuel gd (f1.get x) .nilIface fn.results.toList f2 m2
            | some (.ret, f2, m2) => dend P X call fuel gd (f1.get x) .nilIface fn.results.toList f2 m2
            | some _ => none
            | none => match pexec P X call pcall fuel B f1 m1 with
              | some (v, f2, m2) => dend P X call fuel gd (f1.get x) v fn.results.toList f2 m2
              | none => none
          | _ => none
        else none

theorem results_run {fn : Func} {f : LF} {m : LMem} {w : World} {a : Act} {φ : Phi} {vs : List Value} (hm : MR φ m.get w) (hf : FR φ f a) (h : lresults P f m fn.results.toList = some vs) :
    ∃ v', (results fn a.tmps).run P w = .ok v' w ∧ VR φ (ltuple vs) v' := by
  obtain ⟨vs', k1, k2⟩ := results_sim (P := P) (G := fun
    | .tmp t => pure (a.tmps.getD t undef)
    | .cell x t => do loadVar t (← asAddr (a.tmps.getD x undef))) (fun _ => rfl) (fun _ _ => rfl) hm hf fn.results.toList vs h
  refine ⟨_, ?_, tuple_sim k2⟩
  unfold results
  rw [Sem.run_bind, Array.mapM_eq_mapM_toList, Sem.run_map]
  refine Eq.trans (congrArg (fun r => Result.andThen (Result.andThen r _) _) (Eq.trans ?_ k1)) rfl
  rfl

/-- what 'recover' gives in a mode, and the mode behind it -/
def RecMode (u : FrameMode) (r : Value) (u' : FrameMode) : Prop :=
  (u = .returning ∧ r = .nilIface ∧ u' = .returning) ∨ (u = .panicking [{ v := r, recovered := false }] ∧ u' = .panicking [{ v := r, recovered := true }])

theorem RecMode.settles {u u' : FrameMode} {r : Value} (h : RecMode u r u') : settle u' = .returning ∧ u ≠ .run := by
  have _s := SymT.tab
  rcases h with ⟨rfl, rfl, rfl⟩ | ⟨rfl, rfl⟩
  · exact ⟨rfl, by simp⟩
  · exact ⟨rfl, by simp⟩

theorem dtail_sim (hP : POK P X) (hc : CallSound P call) {fuel : Nat} {gd : FuncId} {arg r : Value} {m m' : LMem} (h : dtail P X call fuel gd arg r m = some m') (hw : WF m) :
    (m.next ≤ m'.next ∧ WF m') ∧ (∃ fd c, P.funcs[gd]? = some fd ∧ fd.body = some c) ∧ ∀ φ w arg' r' u u' (R : Ending → FrameMode → World → Prop), MR φ m.get w → Bd φ m.next → VR φ arg arg' → VR φ r r' → RecMode u r' u' →
      (∀ v φ' w', Sim m.next φ φ' w w' → MR φ' m'.get w' → Bd φ' m'.next → R (.returned v) u' w') → CallsD P gd #[arg'] u w R := by
  unfold dtail at h
  split at h
  · cases h
  rename_i fd hfd
  split at h
  · cases h
  rename_i cd hcd
  split at h
  · cases h
  rename_i d D hsh
  cases hq : (Nat.ble 1 fd.ntmps && Nat.ble fd.ntmps 256) with
  | false => simp only [hq, cond_false] at h; cases h
  | true =>
    simp only [hq, cond_true] at h
    rw [Bool.and_eq_true] at hq
    have hq1 := Nat.le_of_ble_eq_true hq.1
    have hq2 := Nat.le_of_ble_eq_true hq.2
    split at h
    · cases h
    rename_i f0 hput
    obtain ⟨id, tys, ty, pos, after, hcode⟩ := rshape_is hsh
    have hf0 : LFok f0 := by
      unfold LF.put at hput
      simp only at hput
      cases hb : Nat.blt d fd.ntmps with
      | false => rw [hb] at hput; cases hput
      | true => rw [hb] at hput; cases hput; exact ⟨hq2⟩
    have key : ∀ (x : LX) (f1 : LF) (m1 : LMem), (x = .norm ∨ x = .ret) → exec P X call fuel D f0 m = some (x, f1, m1) → (lresults P f1 m1 fd.results.toList).map (fun _ => m1) = some m' →
        (m.next ≤ m'.next ∧ WF m') ∧ (∃ fd c, P.funcs[gd]? = some fd ∧ fd.body = some c) ∧ ∀ φ w arg' r' u u' (R : Ending → FrameMode → World → Prop), MR φ m.get w → Bd φ m.next → VR φ arg arg' → VR φ r r' → RecMode u r' u' →
          (∀ v φ' w', Sim m.next φ φ' w w' → MR φ' m'.get w' → Bd φ' m'.next → R (.returned v) u' w') → CallsD P gd #[arg'] u w R := by
      intro x f1 m1 hx hrun hres
      simp only [Option.map_eq_some_iff] at hres
      obtain ⟨vs, hvs, rfl⟩ := hres
      obtain ⟨g1, g2⟩ := (exec_sim hP hc fuel).1 D f0 f1 m m1 x hrun hf0 hw
      refine ⟨⟨g1.1, g1.2.1⟩, ⟨fd, cd, hfd, hcd⟩, fun φ w arg' r' u u' R hm hb hv hr hrec hR => callsD_of_wpS hfd hcd fun c₀ cs hmode => ?_⟩
      rw [hcode]
      refine wpS_seq (wpS_region ?_)
      have hfr : FR φ { tr := putArgs [arg] 0 (TF.lf none), nt := fd.ntmps } { tmps := (⟨[arg']⟩ : Array Value) ++ Array.replicate (fd.ntmps - (⟨[arg']⟩ : Array Value).size) undef, defers := [] } :=
        start_frame (.cons _ _ _ _ hv .nil) (by simpa using hq1) hq2
      have hfr2 := hfr.put hput hr
      have hex : ∀ (a : Act), (execOp a.eval ⟨some d, .call ⟨.builtin .recover, #[], tys⟩, ty, pos, after, none⟩).run P w = .ok .recover w := by
        intro a
        simp [execOp, resolve, invoke, builtin]
      have fin : ∀ (cs' : List Frame), cs' = { c₀ with mode := u' } :: cs → Code.wpS P D (bodyPostS P fd c₀ cs R) (Act.put { tmps := (⟨[arg']⟩ : Array Value) ++ Array.replicate (fd.ntmps - (⟨[arg']⟩ : Array Value).size) undef, defers := [] } (some d) r') cs' w := by
        intro cs' hcs
        refine wpS_of_wp (g2 φ w _ hm hb hfr2 _ fun φ3 w3 a3 hs3 hf3 hm3 hb3 hd3 => ?_)
        obtain ⟨v3, hv3, _⟩ := results_run (P := P) hm3 hf3 hvs
        have hpost : a3.defers = [] ∧ ∃ u'', cs' = { c₀ with mode := u'' } :: cs ∧ ∃ v, (results fd a3.tmps).run P w3 = .ok v w3 ∧ R (.returned v) u'' w3 :=
          ⟨hd3, u', hcs, v3, hv3, hR v3 φ3 w3 hs3 hm3 hb3⟩
        rcases hx with rfl | rfl
        · exact hpost
        · exact hpost
      have hwant : ∀ t, Region.wanted ⟨some d, .call ⟨.builtin .recover, #[], tys⟩, ty, pos, after, none⟩ t = true := fun _ => rfl
      show wpOpsS P _ _ [0] _ _ _
      simp only [wpOpsS, List.getElem?_toArray, List.getElem?_cons_zero, hwant, if_true, hex]
      rcases hrec with ⟨rfl, rfl, rfl⟩ | ⟨rfl, rfl⟩
      · have hr0 : recoverD (c₀ :: cs) = none := by simp [recoverD, hmode]
        simp only [hr0]
        exact fin _ (by rw [← hmode])
      · have hr0 : recoverD (c₀ :: cs) = some (r', { c₀ with mode := .panicking [{ v := r', recovered := true }] } :: cs) := by simp [recoverD, hmode]
        simp only [hr0]
        exact fin _ rfl
    split at h
    · rename_i f1 m1 hrun; exact key .norm f1 m1 (.inl rfl) hrun h
    · rename_i f1 m1 hrun; exact key .ret f1 m1 (.inr rfl) hrun h
    · cases h

theorem dcall_sound (hP : POK P X) (hc : CallSound P call) (hpc : PCallSound P pcall) {fuel : Nat} {g : FuncId} {args : List Value} {m m' : LMem} {v : Value} (h : dcall P X call pcall fuel g args m = some (v, m')) (hw : WF m) : SC P g args m v m' := by
  unfold dcall at h
  split at h
  · cases h
  rename_i fn hfn
  split at h
  · cases h
  rename_i c hbody
  split at h
  · cases h
  rename_i A gd x B hsh
  obtain ⟨id, tys, ty, pos, after, hcode⟩ := dshape_is hsh
  cases hq : (Nat.ble args.length fn.ntmps && Nat.ble fn.ntmps 256) with
  | false => simp only [hq, cond_false] at h; cases h
  | true =>
    simp only [hq, cond_true] at h
    rw [Bool.and_eq_true] at hq
    have hq1 := Nat.le_of_ble_eq_true hq.1
    have hq2 := Nat.le_of_ble_eq_true hq.2
    split at h
    case h_2 => cases h
    rename_i f1 m1 hA
    obtain ⟨a1, a2⟩ := (exec_sim hP hc fuel).1 A _ f1 m m1 .norm hA ⟨hq2⟩ hw
    -- the function's way to the deferred call, and from there
    have fin : ∀ (r : Value) (f2 : LF) (m2 : LMem), m1.next ≤ m2.next → WF m2 → dend P X call fuel gd (f1.get x) r fn.results.toList f2 m2 = some (v, m') →
        (∀ φ w a, MR φ m1.get w → Bd φ m1.next → FR φ f1 a → ∀ Q : Exit → Act → World → Prop,
          (∀ φ' w' a' r' u u' e, Sim m1.next φ φ' w w' → FR φ' f2 a' → MR φ' m2.get w' → Bd φ' m2.next → a'.defers = a.defers → VR φ' r r' → RecMode u r' u' →
            (e = .normal ∧ u = .returning ∨ e = .ret ∧ u = .returning ∨ e = .panic [{ v := r', recovered := false }] ∧ u = .panicking [{ v := r', recovered := false }]) → Q e a' w') → B.wp P Q a w) →
        SC P g args m v m' := by
      intro r f2 m2 hle2 hw2 hend hB
      unfold dend at hend
      split at hend
      · cases hend
      rename_i m3 ht
      simp only [Option.map_eq_some_iff, Prod.mk.injEq] at hend
      obtain ⟨vs, hvs, rfl, rfl⟩ := hend
      obtain ⟨t1, ⟨fd, cd, hfd, hcd⟩, t2⟩ := dtail_sim hP hc ht hw2
      refine ⟨⟨Nat.le_trans a1.1 (Nat.le_trans hle2 t1.1), t1.2⟩, fun φ w args' hm hb hargs => calls_of_wp_defers hfn hbody ?_⟩
      rw [hcode]
      refine wp_seq (a2 φ w _ hm hb (start_frame hargs hq1 hq2) _ fun φ1 w1 b1 hs1 hf1 hm1 hb1 hd1 => ?_)
      refine wp_seq (wp_region ?_)
      have hex : (execOp b1.eval ⟨none, .defer ⟨.value (.func gd), #[.tmp x], tys⟩, ty, pos, after, none⟩).run P w1 = .ok (.defer { target := .fn (.func gd) #[], args := #[b1.eval (.tmp x)] }) w1 := by
        simp [execOp, resolve, Act.eval, Deferred.ofValue]
      have hwant : ∀ t, Region.wanted ⟨none, .defer ⟨.value (.func gd), #[.tmp x], tys⟩, ty, pos, after, none⟩ t = true := fun _ => rfl
      show wpOps P _ _ [0] _ _
      simp only [wpOps, List.getElem?_toArray, List.getElem?_cons_zero, hwant, if_true]
      left
      unfold Oper.wp
      rw [hex]
      have hx1 : VR φ1 (f1.get x) (b1.eval (.tmp x)) := hf1.eval (x := .tmp x) rfl
      show B.wp P _ { b1 with defers := { target := .fn (.func gd) #[], args := #[b1.eval (.tmp x)] } :: b1.defers } w1
      refine hB φ1 w1 { b1 with defers := { target := .fn (.func gd) #[], args := #[b1.eval (.tmp x)] } :: b1.defers } hm1 hb1 ⟨hf1.size, hf1.ok, hf1.val⟩ _ fun φ2 w2 b2 r' u u' e hs2 hf2 hm2 hb2 hd2 hr2 hrec he => ?_
      have hdef : b2.defers = [{ target := .fn (.func gd) #[], args := #[b1.eval (.tmp x)] }] := by rw [hd2, hd1]
      have hleave : Leaves P fn b2.tmps (CallPost m m3 (ltuple vs) φ w) b2.defers u w2 := by
        rw [hdef]
        refine ⟨hrec.settles.2, .func gd, #[], gd, #[b1.eval (.tmp x)], rfl, ?_, ?_⟩
        · have hn := hP.num gd fd hfd
          simp only [invoke, callFunc, Sem.run_bind, run_program, Result.andThen_ok, hfd]
          simp [hn, hcd]
        · refine t2 φ2 w2 _ r' u u' _ hm2 hb2 (hx1.mono hs2.ext) hr2 hrec fun v3 φ3 w3 hs3 hm3 hb3 => ?_
          show Leaves P fn b2.tmps (CallPost m m3 (ltuple vs) φ w) [] (settle u') w3
          rw [hrec.settles.1]
          obtain ⟨v4, hv4, hv5⟩ := results_run (P := P) hm3 (hf2.mono hs3.ext) hvs
          exact ⟨v4, hv4, v4, φ3, rfl, (hs1.trans a1.1 hs2).trans (Nat.le_trans a1.1 hle2) hs3, hv5, hm3, hb3⟩
      rcases he with ⟨rfl, rfl⟩ | ⟨rfl, rfl⟩ | ⟨rfl, rfl⟩
      · exact hleave
      · exact hleave
      · exact hleave
    split at h
    · rename_i f2 m2 hB
      obtain ⟨b1, b2⟩ := (exec_sim hP hc fuel).1 B f1 f2 m1 m2 .norm hB a1.2.2 a1.2.1
      refine fin .nilIface f2 m2 b1.1 b1.2.1 h fun φ w a hm hb hf Q hQ => b2 φ w a hm hb hf Q fun φ' w' a' hs hf' hm' hb' hd' => ?_
      exact hQ φ' w' a' .nilIface .returning .returning _ hs hf' hm' hb' hd' .nilIface (.inl ⟨rfl, rfl, rfl⟩) (.inl ⟨rfl, rfl⟩)
    · rename_i f2 m2 hB
      obtain ⟨b1, b2⟩ := (exec_sim hP hc fuel).1 B f1 f2 m1 m2 .ret hB a1.2.2 a1.2.1
      refine fin .nilIface f2 m2 b1.1 b1.2.1 h fun φ w a hm hb hf Q hQ => b2 φ w a hm hb hf Q fun φ' w' a' hs hf' hm' hb' hd' => ?_
      exact hQ φ' w' a' .nilIface .returning .returning _ hs hf' hm' hb' hd' .nilIface (.inl ⟨rfl, rfl, rfl⟩) (.inr (.inl ⟨rfl, rfl⟩))
    · cases h
    · split at h
      · rename_i r f2 m2 hB
        obtain ⟨b1, b2⟩ := pexec_sim hP hc hpc fuel B f1 f2 m1 m2 r hB a1.2.2 a1.2.1
        refine fin r f2 m2 b1.1 b1.2.1 h fun φ w a hm hb hf Q hQ => b2 φ w a hm hb hf Q fun φ' w' a' r' hs hf' hm' hb' hd' hr' => ?_
        exact hQ φ' w' a' r' _ _ _ hs hf' hm' hb' hd' hr' (.inr ⟨rfl, rfl⟩) (.inr (.inr ⟨rfl, rfl⟩))
      · cases h

/-- a function that defers, as a primitive: what it calls is run without primitives -/
noncomputable def deferPrim (P : Program) (X : ExtT) (gs : List FuncId) : FuncId → Option (List Value → LMem → Option (Value × LMem)) :=
  fun g => bif gs.any (Nat.beq g) then some (dcall P X (callF P X (fun _ => none) 10000 30) (pcallF P X (fun _ => none) 10000 30) 10000 g) else none

theorem deferPrim_ok (hP : POK P X) (gs : List FuncId) : PrimOK P (deferPrim P X gs) := by
  intro g p h args m v m' hp hw
  unfold deferPrim at h
  cases hb : gs.any (Nat.beq g) with
  | false => rw [hb] at h; cases h
  | true =>
    rw [hb] at h
    simp only [cond_true, Option.some.injEq] at h
    subst h
    exact dcall_sound hP (call_sound hP (noPrim P) 10000 30) (pcall_sound hP (noPrim P) 10000 30) hp hw
end
end Go.Eng
