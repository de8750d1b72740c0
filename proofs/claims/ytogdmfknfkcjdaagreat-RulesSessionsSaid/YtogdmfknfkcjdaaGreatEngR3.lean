/- The engine: a deterministic run of the model's code on a logical memory, proved sound against 'Calls' (part 3). No condition. -/
import Derived.Test.YtogdmfknfkcjdaaGreatEngR2
import Derived.Below
/- The iterator of a range over a function, and its rounds. -/
namespace Go.Eng
variable [SymV] [SymT]
section
variable {P : Program} {X : ExtT} {call : CallT}

theorem simPut {n : Nat} {φ0 φ : Phi} {w0 w : World} (h : Sim n φ0 φ w0 w) {l : Nat} (o : Obj) (hl : w0.heap.size ≤ l) : Sim n φ0 φ w0 (w.putObj l o) := by
  have _s := SymT.tab
  exact ⟨h.ext, h.new, h.un, ⟨h.fr.os, h.fr.tape, h.fr.output, by rw [World.putObj_size]; exact h.fr.size, fun b hb hne => (World.putObj_heap_other (by omega)).trans (h.fr.same b hb hne)⟩⟩

theorem mrPut {φ : Phi} {G : Nat → Option LB} {w : World} (h : MR φ G w) {l : Nat} (o : Obj) (hl : ∀ id loc, φ id = some (some loc) → loc.b ≠ l) (hc : (∀ c e fz, w.heap[l]? ≠ some (.cells c e fz)) ∧ ∀ es ck, w.heap[l]? ≠ some (.map es ck)) : MR φ G (w.putObj l o) := by
  have _s := SymT.tab
  exact ⟨fun id loc hloc => let ⟨b, h1, h2⟩ := h.live id loc hloc; ⟨b, h1, h2.mono (Ext.refl φ) (World.putObj_heap_other (hl id loc hloc))⟩, h.dead, h.inj, h.pin.mono' (fun id loc hl => .inl ⟨id, loc, hl, rfl⟩) fun b q _ _ => World.putObj_heap_other fun he => by
    subst he
    rcases q with ⟨c, e, fz, q⟩ | ⟨es, ck, q⟩
    · exact hc.1 c e fz q
    · exact hc.2 es ck q⟩

/-- the loop's record, and the block for deferred calls -/
structure RI (l D : Nat) (rc : Loop) (φ : Phi) (w : World) : Prop where
  lp : w.heap[l]? = some (.loop rc)
  df : w.heap[D]? = some (.deferred (some []))
  ol : ∀ id loc, φ id = some (some loc) → loc.b ≠ l ∧ loc.b ≠ D

theorem RI.step {l D : Nat} {rc : Loop} {n : Nat} {φ φ' : Phi} {w w' : World} (h : RI l D rc φ w) (hs : Sim n φ φ' w w') : RI l D rc φ' w' := by
  have _s := SymT.tab
  have h1 := (Array.getElem?_eq_some_iff.1 h.lp).1
  have h2 := (Array.getElem?_eq_some_iff.1 h.df).1
  refine ⟨(hs.fr.same l h1 fun id loc hl => (h.ol id loc hl).1).trans h.lp, (hs.fr.same D h2 fun id loc hl => (h.ol id loc hl).2).trans h.df, fun id loc hl => ?_⟩
  rcases hs.new id loc hl with ⟨jd, l0, h3, h4⟩ | h3
  · rw [← h4]; exact h.ol jd l0 h3
  · omega

theorem RI.put {l D : Nat} {rc : Loop} (rc' : Loop) {φ : Phi} {w : World} (h : RI l D rc φ w) (hne : D ≠ l) : RI l D rc' φ (w.putObj l (.loop rc')) := by
  have _s := SymT.tab
  exact ⟨World.putObj_heap_same (Array.getElem?_eq_some_iff.1 h.lp).1, (World.putObj_heap_other hne).trans h.df, h.ol⟩

def jc : LX → Option Code
  | .norm => none
  | .exit id => some (.exit id)
  | .ret => some .ret

def jst : LX → LoopState
  | .norm => .ready
  | _ => .done

/-- what a call of yield must give -/
def YieldOK (P : Program) (l D : Nat) (R : LX → Loop) (n0 : Nat) (φ0 : Phi) (w0 : World) (yf : YT) : Prop :=
  ∀ args m x m', yf args m = some (x, m') → WF m → n0 ≤ m.next → (m.next ≤ m'.next ∧ WF m') ∧
    ∀ φ w args', Sim n0 φ0 φ w0 w → MR φ m.get w → Bd φ m.next → VRL φ args args' → RI l D (R .norm) φ w →
      ∃ fn tmps assign body, (Instr.yield l ⟨args'⟩).run P w = .ok (.round l fn tmps assign body) w ∧
        RoundIn (FW none) 0 P l fn tmps assign body w fun e w' => ∃ φ', e = .returned (.bool (isNorm x)) ∧ Sim n0 φ0 φ' w0 w' ∧ Ext φ φ' ∧ MR φ' m'.get w' ∧ Bd φ' m'.next ∧ RI l D (R x) φ' w'

/-- the iterator's frame: yield in some temporaries -/
structure FRY (Y : List Nat) (l : Nat) (φ : Phi) (f : LF) (a : Act) : Prop where
  size : a.tmps.size = f.nt
  ok : LFok f
  val : ∀ i, isY Y i = false → VR φ (f.get i) (a.tmps.getD i undef)
  yl : ∀ i, isY Y i = true → a.tmps.getD i undef = .func (.yield l) #[] #[]

theorem put_get {a : Act} {d : Nat} {v : Value} (h : d < a.tmps.size) (i : Nat) : (a.put (some d) v).tmps.getD i undef = if i = d then v else a.tmps.getD i undef := by
  have _s := SymT.tab
  by_cases he : i = d
  · subst he; simp [Act.put, h]
  · simp [Act.put, Array.getElem?_setIfInBounds_ne (Ne.symm he), he]

theorem FRY.mono {Y : List Nat} {l : Nat} {φ φ' : Phi} {f : LF} {a : Act} (h : FRY Y l φ f a) (he : Ext φ φ') : FRY Y l φ' f a := by
  have _s := SymT.tab
  exact ⟨h.size, h.ok, fun i hi => (h.val i hi).mono he, h.yl⟩

theorem FRY.put {Y : List Nat} {l : Nat} {φ : Phi} {f f' : LF} {a : Act} {dst : Option Nat} {v v' : Value} (h : FRY Y l φ f a) (hd : dstOff Y dst = true) (hp : f.put dst v = some f') (hv : VR φ v v') : FRY Y l φ f' (a.put dst v') := by
  cases dst with
  | none => simp [LF.put] at hp; subst hp; exact h
  | some d =>
    obtain ⟨h1, h0, h2, h3⟩ := LF.get_put h.ok hp
    have hlt : d < a.tmps.size := by rw [h.size]; exact h2
    have hd' : isY Y d = false := by simpa [dstOff] using hd
    refine ⟨by simp [Act.put, h.size, h1], h0, fun i hi => ?_, fun i hi => ?_⟩
    · rw [h3 i, put_get hlt]
      by_cases he : i = d
      · rw [if_pos he, if_pos he]; exact hv
      · rw [if_neg he, if_neg he]; exact h.val i hi
    · rw [put_get hlt, if_neg (fun he => by rw [he, hd'] at hi; cases hi)]
      exact h.yl i hi

theorem FRY.putY {Y : List Nat} {l : Nat} {φ : Phi} {f f' : LF} {a : Act} {d : Nat} {v : Value} (h : FRY Y l φ f a) (hp : f.put (some d) v = some f') : FRY (d :: Y) l φ f' (a.put (some d) (.func (.yield l) #[] #[])) := by
  obtain ⟨h1, h0, h2, h3⟩ := LF.get_put h.ok hp
  have hlt : d < a.tmps.size := by rw [h.size]; exact h2
  have hY : ∀ i, isY (d :: Y) i = (Nat.beq d i || isY Y i) := fun i => rfl
  refine ⟨by simp [Act.put, h.size, h1], h0, fun i hi => ?_, fun i hi => ?_⟩
  · rw [hY, Bool.or_eq_false_iff] at hi
    have hne : i ≠ d := fun he => by rw [he, Nat.beq_refl] at hi; cases hi.1
    rw [h3 i, put_get hlt, if_neg hne, if_neg hne]
    exact h.val i hi.2
  · rw [put_get hlt]
    by_cases he : i = d
    · rw [if_pos he]
    · rw [if_neg he]
      rw [hY, Bool.or_eq_true] at hi
      rcases hi with hi | hi
      · exact absurd (Nat.eq_of_beq_eq_true hi).symm he
      · exact h.yl i hi

theorem FRY.eval {Y : List Nat} {l : Nat} {φ : Phi} {f : LF} {a : Act} (h : FRY Y l φ f a) {x : Operand} (hx : offY Y x = true) : VR φ (f.lev x) (a.eval x) := by
  have _s := SymT.tab
  have _s := SymT.tab
  cases x with
  | tmp i => exact h.val i (by simpa [offY] using hx)
  | const v => exact VR.refl 7 v (Nat.eq_of_beq_eq_true hx)
  | global g => cases hx
  | func g => exact .func _ _ _ _ _ .nil .nil

/-- the state between two operations of the iterator -/
structure II (l D : Nat) (R : LX → Loop) (n0 : Nat) (φ0 : Phi) (w0 : World) (s : IS) (φ : Phi) (w : World) (a : Act) : Prop where
  sim : Sim n0 φ0 φ w0 w
  mr : MR φ s.m.get w
  bd : Bd φ s.m.next
  fr : FRY s.Y l φ s.f a
  ri : RI l D (R (leftBy s)) φ w
  df : a.defers = []

structure WI (n0 : Nat) (s : IS) : Prop where
  wf : WF s.m
  ok : LFok s.f
  ge : n0 ≤ s.m.next

theorem mvY_spec {Y : List Nat} {op : Op} (h : mvY Y op = true) : ∃ t, op = .move (.tmp t) ∧ isY Y t = true := by
  have _s := SymT.tab
  unfold mvY at h
  split at h
  · exact ⟨_, rfl, h⟩
  · cases h

theorem clY_spec {Y : List Nat} {op : Op} {args : List Operand} (h : clY Y op = some args) : ∃ t qas ts, op = .call { callee := .value (.tmp t), args := qas, argTypes := ts } ∧ qas.toList = args ∧ isY Y t = true := by
  have _s := SymT.tab
  unfold clY at h
  split at h
  · rename_i t qas ts
    cases hy : isY Y t with
    | false => simp [hy] at h
    | true => simp [hy] at h; exact ⟨t, qas, ts, rfl, by simpa using h, hy⟩
  · cases h

variable {l D : Nat} {R : LX → Loop} {n0 : Nat} {φ0 : Phi} {w0 : World} {yf : YT}

theorem stepI_sim (hP : POK P X) (hc : CallSound P call) (hy : YieldOK P l D R n0 φ0 w0 yf) {o : Oper} {s s' : IS} (h : stepI P X call yf o s = some s') (hw : WI n0 s) :
    (s.m.next ≤ s'.m.next ∧ WI n0 s') ∧ o.guard = none ∧ ∀ φ w a, II l D R n0 φ0 w0 s φ w a → ∀ (K : Act → World → Prop) (Q : Exit → Act → World → Prop),
      (∀ φ' w' a', II l D R n0 φ0 w0 s' φ' w' a' → K a' w') → o.wpIn (FW none) 0 P a w K Q := by
  unfold stepI at h
  cases hg : o.guard with
  | some g => simp only [hg, Option.isSome_some, cond_true] at h; cases h
  | none =>
    simp only [hg, Option.isSome_none, cond_false] at h
    cases hmv : mvY s.Y o.op with
    | true =>
      simp only [hmv, cond_true] at h
      split at h
      case h_2 => cases h
      rename_i d hd
      simp only [Option.map_eq_some_iff] at h
      obtain ⟨f', hp, rfl⟩ := h
      refine ⟨⟨Nat.le_refl _, hw.wf, (hw.ok.put hp).1, hw.ge⟩, rfl, fun φ w a hI K Q hK => ?_⟩
      obtain ⟨t, hop, ht⟩ := mvY_spec hmv
      refine ⟨fun _ _ => trivial, ?_⟩
      rw [Oper.semAt_none]
      unfold execOp
      rw [hop]
      show K (a.put o.dst (a.eval (.tmp t))) w
      have : a.eval (.tmp t) = .func (.yield l) #[] #[] := hI.fr.yl t ht
      rw [this, hd]
      exact hK φ w _ ⟨hI.sim, hI.mr, hI.bd, hI.fr.putY hp, hI.ri, by rw [put_defers]; exact hI.df⟩
    | false =>
      simp only [hmv, cond_false] at h
      split at h
      · rename_i args hcl
        cases hq : (args.all (offY s.Y) && dstOff s.Y o.dst) with
        | false => simp only [hq, cond_false] at h; cases h
        | true =>
          simp only [hq, cond_true] at h
          rw [Bool.and_eq_true] at hq
          split at h
          · cases h
          · rename_i hp0
            split at h
            case h_2 => cases h
            rename_i x m1 hyf
            simp only [Option.map_eq_some_iff] at h
            obtain ⟨f', hp, rfl⟩ := h
            obtain ⟨g1, g2⟩ := hy _ _ _ _ hyf hw.wf hw.ge
            refine ⟨⟨g1.1, g1.2, (hw.ok.put hp).1, Nat.le_trans hw.ge g1.1⟩, rfl, fun φ w a hI K Q hK => ?_⟩
            obtain ⟨t, qas, ts, hop, has, ht⟩ := clY_spec hcl
            have hri : RI l D (R .norm) φ w := by have := hI.ri; unfold leftBy at this; rw [hp0] at this; exact this
            have hargs : VRL φ (args.map s.f.lev) (args.map a.eval) := VRL.map fun y hy' => hI.fr.eval (List.all_eq_true.1 hq.1 y hy')
            obtain ⟨fn, tmps, assign, body, hrun, hround⟩ := g2 φ w _ hI.sim hI.mr hI.bd hargs hri
            have hev : a.eval (.tmp t) = .func (.yield l) #[] #[] := hI.fr.yl t ht
            refine ⟨fun _ _ => trivial, ?_⟩
            rw [Oper.semAt_none]
            have he : (execOp a.eval o).run P w = .ok (.round l fn tmps assign body) w := by
              unfold execOp
              rw [hop]
              simp only [resolve, hev, Deferred.ofValue, Sem.run_bind, Sem.run_pure, Result.andThen_ok, invoke]
              rw [← hrun]
              congr 2
              apply Array.ext'
              simp [has]
            rw [he]
            refine ⟨fun hs => (by cases hs), hround.mono fun e w' hpost => ?_⟩
            obtain ⟨φ', rfl, q1, q2, q3, q4, q5⟩ := hpost
            refine hK φ' w' _ ⟨q1, q3, q4, (hI.fr.mono q2).put hq.2 hp (.bool _), ?_, by rw [put_defers]; exact hI.df⟩
            cases x <;> exact q5
      · cases hq : (o.op.operands.toList.all (offY s.Y) && dstOff s.Y o.dst && notDef o.op) with
        | false => simp only [hq, cond_false] at h; cases h
        | true =>
          simp only [hq, cond_true] at h
          rw [Bool.and_eq_true, Bool.and_eq_true] at hq
          split at h
          case h_2 => cases h
          rename_i v m1 hdo
          simp only [Option.map_eq_some_iff] at h
          obtain ⟨f', hp, rfl⟩ := h
          obtain ⟨g1, g2⟩ := doOp_sim hP hc hw.wf hdo
          refine ⟨⟨g1.1, g1.2, (hw.ok.put hp).1, Nat.le_trans hw.ge g1.1⟩, rfl, fun φ w a hI K Q hK => ?_⟩
          refine operIn (fun c hc' => ?_) (g2 φ w a hI.mr hI.bd (fun x hx => hI.fr.eval (List.all_eq_true.1 hq.1.1 x hx)) K Q fun φ1 w1 v1 hs hv hm1 hb1 => ?_)
          · have := hq.2; rw [hc'] at this; cases this
          · exact hK φ1 w1 _ ⟨hI.sim.trans hw.ge hs, hm1, hb1, (hI.fr.mono hs.ext).put hq.1.2 hp hv, hI.ri.step hs, by rw [put_defers]; exact hI.df⟩

theorem irun_sim (hP : POK P X) (hc : CallSound P call) (hy : YieldOK P l D R n0 φ0 w0 yf) (ops : Array Oper) {Q : Exit → Act → World → Prop} :
    ∀ (r : List Oper) (k : Nat) (s s' : IS), ops.toList.drop k = r → irun P X call yf r s = some s' → WI n0 s →
      (s.m.next ≤ s'.m.next ∧ WI n0 s') ∧ ∀ φ w a, II l D R n0 φ0 w0 s φ w a → (∀ φ' w' a', II l D R n0 φ0 w0 s' φ' w' a' → Q .normal a' w') → wpOpsIn (FW none) 0 P ops Q (List.range' k r.length) a w := by
  intro r
  induction r with
  | nil =>
    intro k s s' _ h hw
    simp only [irun, Option.some.injEq] at h
    subst h
    exact ⟨⟨Nat.le_refl _, hw⟩, fun φ w a hI hQ => hQ φ w a hI⟩
  | cons o r ih =>
    intro k s s' hdrop h hw
    have hk : ops[k]? = some o := by
      have : ops.toList[k]? = some o := by
        have := congrArg List.head? hdrop
        rw [List.head?_drop] at this
        simpa using this
      simpa using this
    have hdrop' : ops.toList.drop (k + 1) = r := by
      rw [← List.drop_drop] at *
      rw [hdrop]; rfl
    simp only [irun] at h
    split at h
    case h_2 => cases h
    rename_i s1 h1
    obtain ⟨g1, g2, g3⟩ := stepI_sim hP hc hy h1 hw
    obtain ⟨i1, i2⟩ := ih (k + 1) s1 s' hdrop' h g1.2
    refine ⟨⟨Nat.le_trans g1.1 i1.1, i1.2⟩, fun φ w a hI hQ => ?_⟩
    have hwant : Region.wanted o (yielded ops a.tmps) = true := by unfold Region.wanted; rw [g2]
    rw [List.length_cons, List.range'_succ]
    simp only [wpOpsIn, hk, hwant, if_true]
    exact g3 φ w a hI _ _ fun φ1 w1 a1 hI1 => i2 φ1 w1 a1 hI1 hQ

def IExec (P : Program) (X : ExtT) (call : CallT) (l D : Nat) (R : LX → Loop) (n0 : Nat) (φ0 : Phi) (w0 : World) (yf : YT) (n : Nat) : Prop :=
  ∀ (c : Code) (s s' : IS) (x : LX), iexec P X call yf n c s = some (x, s') → WI n0 s → (s.m.next ≤ s'.m.next ∧ WI n0 s') ∧
    ∀ φ w a, II l D R n0 φ0 w0 s φ w a → ∀ Q : Exit → Act → World → Prop, (∀ φ' w' a', II l D R n0 φ0 w0 s' φ' w' a' → Q (xit x) a' w') → c.wpIn (FW none) 0 P Q a w

def ILoop (P : Program) (X : ExtT) (call : CallT) (l D : Nat) (R : LX → Loop) (n0 : Nat) (φ0 : Phi) (w0 : World) (yf : YT) (n : Nat) : Prop :=
  ∀ (c : Code) (s s' : IS) (x : LX), iexec P X call yf n (.loop c) s = some (x, s') → WI n0 s → (s.m.next ≤ s'.m.next ∧ WI n0 s') ∧
    ∀ φ w a, II l D R n0 φ0 w0 s φ w a → ∀ Q : Exit → Act → World → Prop, (∀ φ' w' a', II l D R n0 φ0 w0 s' φ' w' a' → Q (xit x) a' w') → Code.roundsIn (FW none) 0 P c Q n a w

theorem iexec_sim (hP : POK P X) (hc : CallSound P call) (hy : YieldOK P l D R n0 φ0 w0 yf) : ∀ n, IExec P X call l D R n0 φ0 w0 yf n ∧ ILoop P X call l D R n0 φ0 w0 yf n := by
  intro n
  induction n with
  | zero => exact ⟨fun c s s' x h => by simp [iexec] at h, fun c s s' x h => by simp [iexec] at h⟩
  | succ n ih =>
    obtain ⟨ihE, ihL⟩ := ih
    have hL : ILoop P X call l D R n0 φ0 w0 yf (n + 1) := by
      intro c s s' x h hw
      simp only [iexec] at h
      split at h
      · rename_i s1 h1
        obtain ⟨g1, g2⟩ := ihE c s s1 .norm h1 hw
        obtain ⟨q1, q2⟩ := ihL c s1 s' x h g1.2
        refine ⟨⟨Nat.le_trans g1.1 q1.1, q1.2⟩, fun φ w a hI Q hQ => ?_⟩
        rw [roundsIn_succ]
        exact g2 φ w a hI _ fun φ1 w1 a1 hI1 => q2 φ1 w1 a1 hI1 Q hQ
      · rename_i hno
        obtain ⟨g1, g2⟩ := ihE c s s' x h hw
        refine ⟨g1, fun φ w a hI Q hQ => ?_⟩
        rw [roundsIn_succ]
        refine g2 φ w a hI _ fun φ1 w1 a1 hI1 => ?_
        have := hQ φ1 w1 a1 hI1
        cases x with
        | norm => exact absurd h (hno s')
        | exit id => exact this
        | ret => exact this
    refine ⟨?_, hL⟩
    intro c s s' x h hw
    cases c with
    | skip =>
      simp only [iexec, Option.some.injEq, Prod.mk.injEq] at h
      obtain ⟨rfl, rfl⟩ := h
      exact ⟨⟨Nat.le_refl _, hw⟩, fun φ w a hI Q hQ => wpIn_skip (hQ φ w a hI)⟩
    | region id ops draw =>
      simp only [iexec] at h
      cases draw with
      | true => simp at h
      | false =>
        simp only [cond_false, Option.map_eq_some_iff, Prod.mk.injEq] at h
        obtain ⟨s1, hrun, rfl, rfl⟩ := h
        have hs := fun Q => irun_sim (Q := Q) hP hc hy ops ops.toList 0 s s1 (by simp) hrun hw
        refine ⟨(hs fun _ _ _ => True).1, fun φ w a hI Q hQ => wpIn_region ?_⟩
        have := (hs Q).2 φ w a hI hQ
        rw [← List.range_eq_range'] at this
        simpa using this
    | seq c1 c2 =>
      simp only [iexec] at h
      split at h
      · rename_i s1 h1
        obtain ⟨g1, g2⟩ := ihE c1 s s1 .norm h1 hw
        obtain ⟨q1, q2⟩ := ihE c2 s1 s' x h g1.2
        exact ⟨⟨Nat.le_trans g1.1 q1.1, q1.2⟩, fun φ w a hI Q hQ => wpIn_seq (g2 φ w a hI _ fun φ1 w1 a1 hI1 => q2 φ1 w1 a1 hI1 Q hQ)⟩
      · rename_i hno
        obtain ⟨g1, g2⟩ := ihE c1 s s' x h hw
        refine ⟨g1, fun φ w a hI Q hQ => wpIn_seq (g2 φ w a hI _ fun φ1 w1 a1 hI1 => ?_)⟩
        have := hQ φ1 w1 a1 hI1
        cases x with
        | norm => exact absurd h (hno s')
        | exit id => exact this
        | ret => exact this
    | cond o c1 c2 =>
      simp only [iexec] at h
      cases ho : offY s.Y o with
      | false => simp only [ho, cond_false] at h; cases h
      | true =>
        simp only [ho, cond_true] at h
        have key : ∀ (t : Bool) (b : Code), (if t then c1 else c2) = b → s.f.lev o = .bool t → iexec P X call yf n b s = some (x, s') → (s.m.next ≤ s'.m.next ∧ WI n0 s') ∧
            ∀ φ w a, II l D R n0 φ0 w0 s φ w a → ∀ Q : Exit → Act → World → Prop, (∀ φ' w' a', II l D R n0 φ0 w0 s' φ' w' a' → Q (xit x) a' w') → (Code.cond o c1 c2).wpIn (FW none) 0 P Q a w := by
          intro t b hb' hl hr
          obtain ⟨g1, g2⟩ := ihE b s s' x hr hw
          refine ⟨g1, fun φ w a hI Q hQ => wpIn_cond (t := t) ?_ (by rw [hb']; exact g2 φ w a hI Q hQ)⟩
          have := hI.fr.eval ho
          rw [hl] at this
          generalize a.eval o = y at this
          cases this; rfl
        split at h
        · rename_i hl; exact key true c1 rfl hl h
        · rename_i hl; exact key false c2 rfl hl h
        · cases h
    | block id c =>
      simp only [iexec] at h
      split at h
      · rename_i j s1 h1
        obtain ⟨g1, g2⟩ := ihE c s s1 (.exit j) h1 hw
        cases hj : Nat.beq j id with
        | true =>
          simp only [hj, cond_true, Option.some.injEq, Prod.mk.injEq] at h
          obtain ⟨rfl, rfl⟩ := h
          have := Nat.eq_of_beq_eq_true hj
          subst this
          refine ⟨g1, fun φ w a hI Q hQ => wpIn_block (g2 φ w a hI _ fun φ1 w1 a1 hI1 => ?_)⟩
          simp only [xit, Exit.inBlock, if_true]
          exact hQ φ1 w1 a1 hI1
        | false =>
          simp only [hj, cond_false, Option.some.injEq, Prod.mk.injEq] at h
          obtain ⟨rfl, rfl⟩ := h
          have hne : ¬ j = id := fun h0 => by rw [h0, Nat.beq_refl] at hj; cases hj
          refine ⟨g1, fun φ w a hI Q hQ => wpIn_block (g2 φ w a hI _ fun φ1 w1 a1 hI1 => ?_)⟩
          simp only [xit, Exit.inBlock, if_neg hne]
          exact hQ φ1 w1 a1 hI1
      · rename_i hno
        obtain ⟨g1, g2⟩ := ihE c s s' x h hw
        refine ⟨g1, fun φ w a hI Q hQ => wpIn_block (g2 φ w a hI _ fun φ1 w1 a1 hI1 => ?_)⟩
        have := hQ φ1 w1 a1 hI1
        cases x with
        | norm => exact this
        | exit j => exact absurd h (hno j s')
        | ret => exact this
    | loop c =>
      obtain ⟨g1, g2⟩ := hL c s s' x h hw
      exact ⟨g1, fun φ w a hI Q hQ => wpIn_loop_rounds (n + 1) (g2 φ w a hI Q hQ)⟩
    | exit id =>
      simp only [iexec, Option.some.injEq, Prod.mk.injEq] at h
      obtain ⟨rfl, rfl⟩ := h
      exact ⟨⟨Nat.le_refl _, hw⟩, fun φ w a hI Q hQ => wpIn_exit (hQ φ w a hI)⟩
    | ret =>
      simp only [iexec, Option.some.injEq, Prod.mk.injEq] at h
      obtain ⟨rfl, rfl⟩ := h
      exact ⟨⟨Nat.le_refl _, hw⟩, fun φ w a hI Q hQ => wpIn_ret (hQ φ w a hI)⟩
    | rangeFunc _ _ _ _ => simp [iexec] at h
    | scope c => simp [iexec] at h
    | label _ => simp [iexec] at h
    | goto _ => simp [iexec] at h
    | refuse _ => simp [iexec] at h
end
end Go.Eng
/- A range over a function is sound, and so are functions that hold one. -/
namespace Go.Eng
open Go.RowKit
variable [SymV] [SymT]
section
variable {P : Program} {X : ExtT} {call : CallT}

theorem putPs_sim {φ : Phi} : ∀ {ps : List Nat} {args args' : List Value} {f f' : LF} {a : Act}, putPs ps args f = some f' → VRL φ args args' → FR φ f a →
    args'.length = ps.length ∧ FR φ f' { tmps := (ps.zip args').foldl (fun t (p, v) => t.setIfInBounds p v) a.tmps, defers := [] }
  | [], [], args', f, f', a, h, hv, hf => by
    cases hv
    simp only [putPs, Option.some.injEq] at h
    subst h
    exact ⟨rfl, hf.size, hf.ok, hf.val⟩
  | p :: ps, v :: vs, args', f, f', a, h, hv, hf => by
    cases hv with
    | cons _ v' _ vs' h1 h2 =>
      simp only [putPs] at h
      split at h
      case h_2 => cases h
      rename_i f1 hp
      have hf1 := hf.put hp h1
      obtain ⟨q1, q2⟩ := putPs_sim h h2 hf1
      exact ⟨by simp [q1], q2⟩
  | [], _ :: _, _, _, _, _, h, _, _ => by simp [putPs] at h
  | _ :: _, [], _, _, _, _, h, _, _ => by simp [putPs] at h

theorem putPs_ok : ∀ {ps : List Nat} {args : List Value} {f f' : LF}, putPs ps args f = some f' → LFok f → LFok f'
  | [], [], f, f', h, hf => by simp only [putPs, Option.some.injEq] at h; subst h; exact hf
  | p :: ps, v :: vs, f, f', h, hf => by
    simp only [putPs] at h
    split at h
    case h_2 => cases h
    rename_i f1 hp
    exact putPs_ok h (hf.put hp).1
  | [], _ :: _, _, _, h, _ => by simp [putPs] at h
  | _ :: _, [], _, _, h, _ => by simp [putPs] at h

def YieldW (n0 : Nat) (yf : YT) : Prop := ∀ args m x m', yf args m = some (x, m') → WF m → n0 ≤ m.next → m.next ≤ m'.next ∧ WF m'

theorem stepI_wf (hP : POK P X) (hc : CallSound P call) {n0 : Nat} {yf : YT} (hy : YieldW n0 yf) {o : Oper} {s s' : IS} (h : stepI P X call yf o s = some s') (hw : WI n0 s) : s.m.next ≤ s'.m.next ∧ WI n0 s' := by
  unfold stepI at h
  cases hg : o.guard.isSome with
  | true => simp only [hg, cond_true] at h; cases h
  | false =>
    simp only [hg, cond_false] at h
    cases hmv : mvY s.Y o.op with
    | true =>
      simp only [hmv, cond_true] at h
      split at h
      case h_2 => cases h
      simp only [Option.map_eq_some_iff] at h
      obtain ⟨f', hp, rfl⟩ := h
      exact ⟨Nat.le_refl _, hw.wf, (hw.ok.put hp).1, hw.ge⟩
    | false =>
      simp only [hmv, cond_false] at h
      split at h
      · rename_i args hcl
        cases hq : (args.all (offY s.Y) && dstOff s.Y o.dst) with
        | false => simp only [hq, cond_false] at h; cases h
        | true =>
          simp only [hq, cond_true] at h
          split at h
          · cases h
          · split at h
            case h_2 => cases h
            rename_i x m1 hyf
            simp only [Option.map_eq_some_iff] at h
            obtain ⟨f', hp, rfl⟩ := h
            obtain ⟨g1, g2⟩ := hy _ _ _ _ hyf hw.wf hw.ge
            exact ⟨g1, g2, (hw.ok.put hp).1, Nat.le_trans hw.ge g1⟩
      · cases hq : (o.op.operands.toList.all (offY s.Y) && dstOff s.Y o.dst && notDef o.op) with
        | false => simp only [hq, cond_false] at h; cases h
        | true =>
          simp only [hq, cond_true] at h
          split at h
          case h_2 => cases h
          rename_i v m1 hdo
          simp only [Option.map_eq_some_iff] at h
          obtain ⟨f', hp, rfl⟩ := h
          obtain ⟨g1, _⟩ := doOp_sim hP hc hw.wf hdo
          exact ⟨g1.1, g1.2, (hw.ok.put hp).1, Nat.le_trans hw.ge g1.1⟩

theorem irun_wf (hP : POK P X) (hc : CallSound P call) {n0 : Nat} {yf : YT} (hy : YieldW n0 yf) : ∀ {r : List Oper} {s s' : IS}, irun P X call yf r s = some s' → WI n0 s → s.m.next ≤ s'.m.next ∧ WI n0 s'
  | [], s, s', h, hw => by
    simp only [irun, Option.some.injEq] at h
    subst h
    exact ⟨Nat.le_refl _, hw⟩
  | o :: r, s, s', h, hw => by
    simp only [irun] at h
    split at h
    case h_2 => cases h
    rename_i s1 h1
    obtain ⟨g1, g2⟩ := stepI_wf hP hc hy h1 hw
    obtain ⟨i1, i2⟩ := irun_wf hP hc hy h g2
    exact ⟨Nat.le_trans g1 i1, i2⟩

theorem iexec_wf (hP : POK P X) (hc : CallSound P call) {n0 : Nat} {yf : YT} (hy : YieldW n0 yf) : ∀ (n : Nat) (c : Code) (s s' : IS) (x : LX), iexec P X call yf n c s = some (x, s') → WI n0 s → s.m.next ≤ s'.m.next ∧ WI n0 s' := by
  intro n
  induction n with
  | zero => intro c s s' x h; simp [iexec] at h
  | succ n ih =>
    intro c s s' x h hw
    have two : ∀ (c1 c2 : Code), (match iexec P X call yf n c1 s with
        | some (.norm, s1) => iexec P X call yf n c2 s1
        | r => r) = some (x, s') → s.m.next ≤ s'.m.next ∧ WI n0 s' := by
      intro c1 c2 h
      split at h
      · rename_i s1 h1
        obtain ⟨g1, g2⟩ := ih c1 s s1 .norm h1 hw
        obtain ⟨q1, q2⟩ := ih c2 s1 s' x h g2
        exact ⟨Nat.le_trans g1 q1, q2⟩
      · exact ih c1 s s' x h hw
    cases c with
    | skip =>
      simp only [iexec, Option.some.injEq, Prod.mk.injEq] at h
      obtain ⟨rfl, rfl⟩ := h
      exact ⟨Nat.le_refl _, hw⟩
    | region id ops draw =>
      simp only [iexec] at h
      cases draw with
      | true => simp at h
      | false =>
        simp only [cond_false, Option.map_eq_some_iff, Prod.mk.injEq] at h
        obtain ⟨s1, hrun, rfl, rfl⟩ := h
        exact irun_wf hP hc hy hrun hw
    | seq c1 c2 => simp only [iexec] at h; exact two c1 c2 h
    | cond o c1 c2 =>
      simp only [iexec] at h
      cases ho : offY s.Y o with
      | false => simp only [ho, cond_false] at h; cases h
      | true =>
        simp only [ho, cond_true] at h
        split at h
        · exact ih _ _ _ _ h hw
        · exact ih _ _ _ _ h hw
        · cases h
    | block id c =>
      simp only [iexec] at h
      split at h
      · rename_i j s1 h1
        have := ih c s s1 (.exit j) h1 hw
        cases hj : Nat.beq j id with
        | true =>
          simp only [hj, cond_true, Option.some.injEq, Prod.mk.injEq] at h
          obtain ⟨rfl, rfl⟩ := h
          exact this
        | false =>
          simp only [hj, cond_false, Option.some.injEq, Prod.mk.injEq] at h
          obtain ⟨rfl, rfl⟩ := h
          exact this
      · exact ih c s s' x h hw
    | loop c => simp only [iexec] at h; exact two c (.loop c) h
    | exit id =>
      simp only [iexec, Option.some.injEq, Prod.mk.injEq] at h
      obtain ⟨rfl, rfl⟩ := h
      exact ⟨Nat.le_refl _, hw⟩
    | ret =>
      simp only [iexec, Option.some.injEq, Prod.mk.injEq] at h
      obtain ⟨rfl, rfl⟩ := h
      exact ⟨Nat.le_refl _, hw⟩
    | rangeFunc _ _ _ _ => simp [iexec] at h
    | scope c => simp [iexec] at h
    | label _ => simp [iexec] at h
    | goto _ => simp [iexec] at h
    | refuse _ => simp [iexec] at h

theorem round_w (hP : POK P X) (hc : CallSound P call) {n n0 : Nat} {ps : List Nat} {assign body : Code} (hka : okR assign = true) (hkb : okR body = true) {f0 : LF} (hf0 : LFok f0) :
    YieldW n0 (roundF (exec P X call n) ps assign body f0) := by
  intro args m x m' h hw _
  unfold roundF at h
  split at h
  case h_2 => cases h
  rename_i f1 hps
  split at h
  case h_2 => cases h
  rename_i f2 m2 ha
  split at h
  case h_2 => cases h
  rename_i x' f3 m3 hb
  simp only [Option.some.injEq, Prod.mk.injEq] at h
  obtain ⟨rfl, rfl⟩ := h
  have hE := (exec_simIn (r := none) hP hc n).1
  obtain ⟨g1, _⟩ := hE assign f1 f2 m m2 .norm ha hka (putPs_ok hps hf0) hw
  obtain ⟨q1, _⟩ := hE body f2 f3 m2 m3 x' hb hkb g1.2.2 g1.2.1
  exact ⟨Nat.le_trans g1.1 q1.1, q1.2.1⟩

/-- the loop's record -/
def recOf (fn : FuncId) (tmps : Array Value) (ps : Array Tmp) (assign body : Code) (D : Nat) (x : LX) : Loop :=
  { state := jst x, pending := jc x, fn, tmps, params := ps, assign, body, defers := D }

theorem foldl_zip_arr (ps : Array Tmp) (vs : List Value) (t0 : Array Value) :
    (ps.zip ⟨vs⟩).foldl (fun t (p, v) => t.setIfInBounds p v) t0 = (ps.toList.zip vs).foldl (fun t (p, v) => t.setIfInBounds p v) t0 := by
  have _s := SymT.tab
  rw [← Array.foldl_toList]
  simp

theorem round_ok (hP : POK P X) (hc : CallSound P call) {n : Nat} {ps : Array Tmp} {assign body : Code} (hka : okR assign = true) (hkb : okR body = true) {f0 : LF} {a0 : Act} {m0 : LMem} {φ0 : Phi} {w0 : World} (hf0 : FR φ0 f0 a0) {l D : Nat} (hl : w0.heap.size ≤ l) (hne : D ≠ l) (fn : FuncId) :
    YieldOK P l D (recOf fn a0.tmps ps assign body D) m0.next φ0 w0 (roundF (exec P X call n) ps.toList assign body f0) := by
  intro args m x m' h hw hge
  unfold roundF at h
  split at h
  case h_2 => cases h
  rename_i f1 hps
  split at h
  case h_2 => cases h
  rename_i f2 m2 ha
  split at h
  case h_2 => cases h
  rename_i x' f3 m3 hb
  simp only [Option.some.injEq, Prod.mk.injEq] at h
  obtain ⟨rfl, rfl⟩ := h
  have hE := (exec_simIn (r := some l) hP hc n).1
  obtain ⟨g1, g2⟩ := hE assign f1 f2 m m2 .norm ha hka (putPs_ok hps hf0.ok) hw
  obtain ⟨q1, q2⟩ := hE body f2 f3 m2 m3 x' hb hkb g1.2.2 g1.2.1
  refine ⟨⟨Nat.le_trans g1.1 q1.1, q1.2.1⟩, fun φ w args' hs hm hbd hv hri => ?_⟩
  obtain ⟨hlen, hf1⟩ := putPs_sim hps hv (hf0.mono hs.ext)
  have hy := run_yield (P := P) (args := ⟨args'⟩) hri.lp (by show args'.length = ps.size; rw [hlen]; simp)
  refine ⟨_, _, _, _, hy, roundIn_of_wpIn trivial ?_⟩
  have htm : (Array.foldl (fun tmps x => match x with | (t, a) => tmps.setIfInBounds t a) (recOf fn a0.tmps ps assign body D .norm).tmps ((recOf fn a0.tmps ps assign body D .norm).params.zip ⟨args'⟩)) =
      (ps.toList.zip args').foldl (fun t (p, v) => t.setIfInBounds p v) a0.tmps := foldl_zip_arr ps args' a0.tmps
  rw [htm]
  refine g2 φ w _ hm hbd hf1 _ fun φ2 w2 a2 hs2 hf2 hm2 hb2 hd2 => ?_
  have hri2 := hri.step hs2
  refine ⟨_, run_beginRound hri2.lp rfl, ?_⟩
  have hri3 := hri2.put { recOf fn a0.tmps ps assign body D .norm with state := .busy } hne
  have hs3 : Sim m0.next φ0 φ2 w0 (w2.putObj l (.loop { recOf fn a0.tmps ps assign body D .norm with state := .busy })) := simPut (hs.trans hge hs2) _ hl
  have hm3 := mrPut hm2 (.loop { recOf fn a0.tmps ps assign body D .norm with state := .busy }) (fun id loc h => (hri2.ol id loc h).1) ⟨(fun c e fz h => by rw [hri2.lp] at h; cases h), fun es ck h => by rw [hri2.lp] at h; cases h⟩
  refine q2 φ2 _ a2 hm3 hb2 hf2 _ fun φ4 w4 a4 hs4 _ hm4 hb4 _ => ?_
  have hri4 := hri3.step hs4
  have fin : ∀ (jump : Option Code), jump = jc x' → ∃ v w', (Instr.endRound l jump).run P w4 = .ok v w' ∧ (∃ φ', Ending.returned v = .returned (.bool (isNorm x')) ∧ Sim m0.next φ0 φ' w0 w' ∧ Ext φ φ' ∧ MR φ' m3.get w' ∧ Bd φ' m3.next ∧ RI l D (recOf fn a0.tmps ps assign body D x') φ' w') := by
    intro jump hj
    refine ⟨_, _, run_endRound jump hri4.lp, φ4, ?_, simPut (hs3.trans (Nat.le_trans hge g1.1) hs4) _ hl, hs2.ext.trans hs4.ext, mrPut hm4 _ (fun id loc h => (hri4.ol id loc h).1) ⟨(fun c e fz h => by rw [hri4.lp] at h; cases h), fun es ck h => by rw [hri4.lp] at h; cases h⟩, hb4, ?_⟩
    · rw [hj]; cases x' <;> rfl
    · have := hri4.put (recOf fn a0.tmps ps assign body D x') hne
      rw [hj]
      cases x' <;> exact this
  cases x' with
  | norm => exact fin none rfl
  | exit id => exact fin (some (.exit id)) rfl
  | ret => exact fin (some .ret) rfl

theorem enters {gi : FuncId} {fn : Func} {c : Code} (hP : POK P X) (hfn : P.funcs[gi]? = some fn) (hb : fn.body = some c) (args : Array Value) (w : World) : (callFunc gi args).run P w = .ok (.enter gi args) w := by
  have _s := SymT.tab
  have := hP.num gi fn hfn
  simp only [beq_eq_false_iff_ne, ne_eq] at this
  simp [callFunc, Sem.run_bind, hfn, this, hb]

/-- marks of ranges over functions, on top of the deferred calls that there were -/
def Mk (w0 : World) (ds0 ds : List Deferred) (φ : Phi) (w : World) : Prop :=
  ∃ Ds : List Nat, ds = Ds.map (fun D => ({ target := .collected D, args := #[] } : Deferred)) ++ ds0 ∧ Ds.Nodup ∧
    ∀ D ∈ Ds, w0.heap.size ≤ D ∧ w.heap[D]? = some (.deferred (some [])) ∧ ∀ id loc, φ id = some (some loc) → loc.b ≠ D

theorem Mk.refl {w0 w : World} {ds ds' : List Deferred} {φ : Phi} (h : ds' = ds) : Mk w0 ds ds' φ w := by
  have _s := SymT.tab
  exact ⟨[], by simpa using h, List.nodup_nil, fun D h => by cases h⟩

theorem Mk.trans {w w1 w2 : World} {ds ds1 ds2 : List Deferred} {φ φ1 φ2 : Phi} {n n1 : Nat} (hs1 : Sim n φ φ1 w w1) (hs2 : Sim n1 φ1 φ2 w1 w2) (h1 : Mk w ds ds1 φ1 w1) (h2 : Mk w1 ds1 ds2 φ2 w2) : Mk w ds ds2 φ2 w2 := by
  have _s := SymT.tab
  obtain ⟨D1, e1, n1, p1⟩ := h1
  obtain ⟨D2, e2, n2, p2⟩ := h2
  have hlt : ∀ D ∈ D1, D < w1.heap.size := fun D hD => (Array.getElem?_eq_some_iff.1 (p1 D hD).2.1).1
  refine ⟨D2 ++ D1, by rw [e2, e1]; simp, List.nodup_append.2 ⟨n2, n1, fun a ha b hb he => ?_⟩, fun D hD => ?_⟩
  · subst he
    have := (p2 a ha).1
    have := hlt a hb
    omega
  · rcases List.mem_append.1 hD with hD | hD
    · obtain ⟨q1, q2, q3⟩ := p2 D hD
      exact ⟨Nat.le_trans hs1.fr.size q1, q2, q3⟩
    · obtain ⟨q1, q2, q3⟩ := p1 D hD
      refine ⟨q1, (hs2.fr.same D (hlt D hD) q3).trans q2, fun id loc hl => ?_⟩
      rcases hs2.new id loc hl with ⟨jd, l0, h3, h4⟩ | h3
      · rw [← h4]; exact q3 jd l0 h3
      · have := hlt D hD; omega

def REnds (m m' : LMem) (f' : LF) (φ : Phi) (a : Act) (w : World) (Q : Act → World → Prop) : Prop :=
  ∀ φ' w' a', Sim m.next φ φ' w w' → FR φ' f' a' → MR φ' m'.get w' → Bd φ' m'.next → Mk w a.defers a'.defers φ' w' → Q a' w'

theorem REnds.ends {m m' : LMem} {f' : LF} {φ : Phi} {a : Act} {w : World} {Q : Act → World → Prop} (h : REnds m m' f' φ a w Q) : Ends m m' f' φ a w Q := by
  have _s := SymT.tab
  exact fun φ' w' a' h1 h2 h3 h4 h5 => h φ' w' a' h1 h2 h3 h4 (Mk.refl h5)

theorem REnds.step {m m1 m' : LMem} {f' : LF} {φ φ1 : Phi} {a a1 : Act} {w w1 : World} {Q : Act → World → Prop} (hle : m.next ≤ m1.next) (hs : Sim m.next φ φ1 w w1) (hd : Mk w a.defers a1.defers φ1 w1) (hE : REnds m m' f' φ a w Q) : REnds m1 m' f' φ1 a1 w1 Q := by
  have _s := SymT.tab
  exact fun φ2 w2 a2 hs2 hf2 hm2 hb2 hd2 => hE φ2 w2 a2 (hs.trans hle hs2) hf2 hm2 hb2 (Mk.trans hs hs2 hd hd2)

theorem range_start {gi : FuncId} {fn : Func} {l : Nat} {φ : Phi} {lb lb' : List Value} (h : VRL φ lb lb') (h1 : lb.length + 1 ≤ fn.ntmps) (h2 : fn.ntmps ≤ 512) :
    FRY [0] l φ { tr := putArgs (undef :: lb) 0 (FT.lf none), nt := fn.ntmps } { tmps := (⟨.func (.yield l) #[] #[] :: lb'⟩ : Array Value) ++ Array.replicate (fn.ntmps - (⟨.func (.yield l) #[] #[] :: lb'⟩ : Array Value).size) undef, defers := [] } := by
  have _s := gi
  have hs := start_frame (nt := fn.ntmps) (VRL.cons undef undef lb lb' VR.undef h) (by simpa using h1) h2
  have hY : ∀ i, isY [0] i = (Nat.beq 0 i || false) := fun i => rfl
  have hg : ∀ i, i ≠ 0 → ((⟨undef :: lb'⟩ : Array Value) ++ Array.replicate (fn.ntmps - (⟨undef :: lb'⟩ : Array Value).size) undef).getD i undef =
      ((⟨.func (.yield l) #[] #[] :: lb'⟩ : Array Value) ++ Array.replicate (fn.ntmps - (⟨.func (.yield l) #[] #[] :: lb'⟩ : Array Value).size) undef).getD i undef := by
    intro i hi
    obtain ⟨k, rfl⟩ : ∃ k, i = k + 1 := ⟨i - 1, by omega⟩
    simp only [Array.getD_eq_getD_getElem?, ← Array.getElem?_toList]
    simp
  refine ⟨?_, hs.ok, fun i hi => ?_, fun i hi => ?_⟩
  · have := hs.size
    simp only [Array.size_append, List.size_toArray, List.length_cons, Array.size_replicate] at this ⊢
    exact this
  · have hi0 : i ≠ 0 := fun h0 => by rw [h0] at hi; cases hi
    have := hs.val i
    rw [hg i hi0] at this
    exact this
  · have hi0 : i = 0 := by
      rw [hY, Bool.or_false] at hi
      exact (Nat.eq_of_beq_eq_true hi).symm
    subst hi0
    simp only [Array.getD_eq_getD_getElem?, ← Array.getElem?_toList]
    simp

theorem range_sim (hP : POK P X) (hc : CallSound P call) {fuel n : Nat} {g : Operand} {ps : Array Tmp} {assign body : Code} (hka : okR assign = true) (hkb : okR body = true) {f f' : LF} {m m' : LMem} {x : LX}
    (h : rangeF P X call fuel (exec P X call n) g ps assign body f m = some (x, f', m')) (hnt : LFok f) (hw : WF m) :
    (m.next ≤ m'.next ∧ WF m' ∧ LFok f') ∧ ∀ φ w a, MR φ m.get w → Bd φ m.next → FR φ f a → ∀ Q : Exit → Act → World → Prop, REnds m m' f' φ a w (Q (xit x)) → (Code.rangeFunc g ps assign body).wpIn (FW none) 0 P Q a w := by
  unfold rangeF at h
  cases hg : okOperand g with
  | false => simp only [hg, cond_false] at h; cases h
  | true =>
    simp only [hg, cond_true] at h
    split at h
    case h_2 => cases h
    rename_i gi lb hlev
    split at h
    case h_2 => cases h
    rename_i fn hfn
    split at h
    case h_2 => cases h
    rename_i c hbody
    cases hq : (Nat.ble (lb.toList.length + 1) fn.ntmps && Nat.ble fn.ntmps 512 && fn.results.toList.isEmpty) with
    | false => simp only [hq, cond_false] at h; cases h
    | true =>
      simp only [hq, cond_true] at h
      rw [Bool.and_eq_true, Bool.and_eq_true] at hq
      have hq1 := Nat.le_of_ble_eq_true hq.1.1
      have hq2 := Nat.le_of_ble_eq_true hq.1.2
      have hres : fn.results = #[] := by
        have := hq.2
        rw [List.isEmpty_iff] at this
        exact Array.ext' this
      have key : ∀ (xi : LX) (s : IS), (xi = .norm ∨ xi = .ret) → iexec P X call (roundF (exec P X call n) ps.toList assign body f) fuel c { f := { tr := putArgs (undef :: lb.toList) 0 (FT.lf none), nt := fn.ntmps }, m := m, Y := [0], p := none } = some (xi, s) →
          some (leftBy s, f, s.m) = some (x, f', m') → (m.next ≤ m'.next ∧ WF m' ∧ LFok f') ∧ ∀ φ w a, MR φ m.get w → Bd φ m.next → FR φ f a → ∀ Q : Exit → Act → World → Prop, REnds m m' f' φ a w (Q (xit x)) → (Code.rangeFunc g ps assign body).wpIn (FW none) 0 P Q a w := by
        intro xi s hxi hrun hsome
        simp only [Option.some.injEq, Prod.mk.injEq] at hsome
        obtain ⟨rfl, rfl, rfl⟩ := hsome
        have hstart : WI m.next { f := { tr := putArgs (undef :: lb.toList) 0 (FT.lf none), nt := fn.ntmps }, m := m, Y := [0], p := none } := ⟨hw, ⟨hq2⟩, Nat.le_refl _⟩
        -- what does not speak of worlds: taken at whatever world
        have hall : ∀ (φ : Phi) (w : World) (a : Act) (fid : FuncId), FR φ f a → (m.next ≤ s.m.next ∧ WI m.next s) ∧ ∀ φ' w' a', II (w.heap.size + 1) w.heap.size (recOf fid a.tmps ps assign body w.heap.size) m.next φ w { f := { tr := putArgs (undef :: lb.toList) 0 (FT.lf none), nt := fn.ntmps }, m := m, Y := [0], p := none } φ' w' a' →
            ∀ Q : Exit → Act → World → Prop, (∀ φ2 w2 a2, II (w.heap.size + 1) w.heap.size (recOf fid a.tmps ps assign body w.heap.size) m.next φ w s φ2 w2 a2 → Q (xit xi) a2 w2) → c.wpIn (FW none) 0 P Q a' w' := by
          intro φ w a fid hf
          have hy := round_ok (n := n) (m0 := m) (w0 := w) hP hc hka hkb hf (l := w.heap.size + 1) (D := w.heap.size) (by omega) (by omega) fid (ps := ps)
          exact (iexec_sim hP hc hy fuel).1 c _ s xi hrun hstart
        obtain ⟨w1, w2⟩ := iexec_wf hP hc (round_w (n0 := m.next) hP hc hka hkb hnt) fuel c _ s xi hrun hstart
        refine ⟨⟨w1, w2.wf, hnt⟩, fun φ w a hm hb hf Q hE => ?_⟩
        obtain ⟨lb', hev, hlb⟩ : ∃ lb', a.eval g = .func (.func gi) #[] lb' ∧ VRL φ lb.toList lb'.toList := by
          have := hf.eval hg
          rw [hlev] at this
          generalize a.eval g = y at this
          cases this with
          | func _ _ _ ys vs h1 h2 =>
            obtain ⟨ys⟩ := ys
            cases h1
            exact ⟨vs, rfl, h2⟩
        refine wpIn_rangeFunc fun fid _ => ?_
        obtain ⟨W1, hW1⟩ : ∃ W1, (w.alloc (.deferred (some []))).alloc (.loop (recOf fid a.tmps ps assign body w.heap.size .norm)) = W1 := ⟨_, rfl⟩
        have hL1 : W1.heap[w.heap.size + 1]? = some (.loop (recOf fid a.tmps ps assign body w.heap.size .norm)) := by
          rw [← hW1]; have := World.alloc_heap_new (w.alloc (.deferred (some []))) (.loop (recOf fid a.tmps ps assign body w.heap.size .norm)); rwa [World.size_alloc] at this
        have hold : ∀ k, k < w.heap.size → W1.heap[k]? = w.heap[k]? := fun k hk => by
          rw [← hW1]
          exact (Below.heap_alloc _ _ _ (by simp; omega)).trans (Below.heap_alloc _ _ _ hk)
        have hK1 : W1.heap[w.heap.size]? = some (.deferred (some [])) := by
          rw [← hW1]; exact (Below.heap_alloc _ _ _ (by simp)).trans (World.alloc_heap_new w _)
        have hlive : ∀ id loc, φ id = some (some loc) → loc.b < w.heap.size := fun id loc hl => by
          obtain ⟨b, _, h2⟩ := hm.live id loc hl
          exact h2.lt
        have hs1 : Sim m.next φ φ w W1 := ⟨Ext.refl φ, fun id loc hl => .inl ⟨id, loc, hl, rfl⟩, fun _ _ h => h, by rw [← hW1]; rfl, by rw [← hW1]; rfl, by rw [← hW1]; rfl, by rw [← hW1]; simp; omega, fun b hb _ => hold b hb⟩
        have hm1 : MR φ m.get W1 := ⟨fun id loc hl => let ⟨b, h1, h2⟩ := hm.live id loc hl; ⟨b, h1, h2.mono (Ext.refl φ) (hold _ (hlive id loc hl))⟩, hm.dead, hm.inj, hm.pin.at fun b hb _ => hold b hb⟩
        have hri1 : RI (w.heap.size + 1) w.heap.size (recOf fid a.tmps ps assign body w.heap.size .norm) φ W1 := ⟨hL1, hK1, fun id loc hl => by have := hlive id loc hl; omega⟩
        refine ⟨w.heap.size + 1, [{ target := .collected w.heap.size, args := #[] }], W1, { target := .fn (.func gi) lb', args := #[.func (.yield (w.heap.size + 1)) #[] #[]] }, W1, gi,
          ⟨.func (.yield (w.heap.size + 1)) #[] #[] :: lb'.toList⟩, W1, ?_, ?_, fun _ _ => trivial, ?_, fun hs => (by cases hs), ?_⟩
        · rw [← hW1]; exact run_enterLoop_outer _ _ _ _ _
        · simp only [resolve, hev]
          simp [go_sem]
        · have he := enters hP hfn hbody (#[.func (.yield (w.heap.size + 1)) #[] #[]] ++ lb') W1
          have hx : (⟨.func (.yield (w.heap.size + 1)) #[] #[] :: lb'.toList⟩ : Array Value) = #[.func (.yield (w.heap.size + 1)) #[] #[]] ++ lb' := by
            apply Array.ext'; simp
          rw [hx]
          simpa [invoke, go_sem] using he
        · refine callsIn_of_wp hfn hbody trivial ?_
          refine (hall φ w a fid hf).2 φ W1 _ ⟨hs1, hm1, hb, range_start (gi := gi) hlb (by exact hq1) hq2, hri1, rfl⟩ _ fun φ2 w2 a2 hI => ?_
          have hpost : a2.defers = [] ∧ ∃ v, (results fn a2.tmps).run P w2 = .ok v w2 ∧ rangePost (FW none) 0 P (w.heap.size + 1) Q { a with defers := [{ target := .collected w.heap.size, args := #[] }] ++ a.defers } (.returned v) w2 := by
            refine ⟨hI.df, .tuple #[], by unfold results; rw [hres]; simp, ?_⟩
            have hbusy : (recOf fid a.tmps ps assign body w.heap.size (leftBy s)).state ≠ .busy := by
              unfold recOf; cases leftBy s <;> simp [jst]
            refine ⟨_, _, run_endLoop hI.ri.lp hbusy, ?_⟩
            have hQ : Q (xit (leftBy s)) { a with defers := [{ target := .collected w.heap.size, args := #[] }] ++ a.defers } (w2.putObj (w.heap.size + 1) (.loop { recOf fid a.tmps ps assign body w.heap.size (leftBy s) with state := .exhausted })) := by
              refine hE φ2 _ _ (simPut hI.sim _ (by omega)) ?_ (mrPut hI.mr _ (fun id loc hl => (hI.ri.ol id loc hl).1) ⟨(fun c e fz h => by rw [hI.ri.lp] at h; cases h), fun es ck h => by rw [hI.ri.lp] at h; cases h⟩) hI.bd ⟨[w.heap.size], rfl, by simp, fun D hD => ?_⟩
              · have := hf.mono hI.sim.ext
                exact ⟨this.size, this.ok, this.val⟩
              · have : D = w.heap.size := by simpa using hD
                subst this
                exact ⟨Nat.le_refl _, (World.putObj_heap_other (by omega)).trans hI.ri.df, fun id loc hl => (hI.ri.ol id loc hl).2⟩
            show (match jc (leftBy s) with
              | none => Q .normal _ _
              | some c => c.wpIn (FW none) 0 P Q _ _)
            cases hx : leftBy s with
            | norm => rw [hx] at hQ; exact hQ
            | exit id => rw [hx] at hQ; exact wpIn_exit hQ
            | ret => rw [hx] at hQ; exact wpIn_ret hQ
          rcases hxi with rfl | rfl
          · exact hpost
          · exact hpost
      split at h
      · rename_i s hrun; exact key .norm s (.inl rfl) hrun h
      · rename_i s hrun; exact key .ret s (.inr rfl) hrun h
      · cases h
end
end Go.Eng
/- Functions that hold a range over a function; calls whose answers are known already. -/
namespace Go.Eng
open Go.RowKit
variable [SymV] [SymT]

def hasRF : Code → Bool
  | .seq a b => hasRF a || hasRF b
  | .cond _ a b => hasRF a || hasRF b
  | .block _ a => hasRF a
  | .loop a => hasRF a
  | .rangeFunc _ _ _ _ => true
  | _ => false

abbrev ExT := Code → LF → LMem → Option (LX × LF × LMem)

noncomputable def rexec (P : Program) (X : ExtT) (call : CallT) (fuel : Nat) : Nat → ExT
  | 0, _, _, _ => none
  | n + 1, c, f, m => bif hasRF c then (match c with
    | .seq a b => seqX (rexec P X call fuel n a f m) (rexec P X call fuel n b)
    | .cond x a b => condF x f (rexec P X call fuel n a f m) (rexec P X call fuel n b f m)
    | .block id a => blockF id (rexec P X call fuel n a f m)
    | .loop a => seqX (rexec P X call fuel n a f m) (rexec P X call fuel n (.loop a))
    | .rangeFunc g ps a b => bif okR a && okR b then rangeF P X call fuel (execF P X call fuel) g ps a b f m else none
    | _ => none) else execF P X call fuel c f m

noncomputable def callBody (P : Program) (ex : ExT) (g : FuncId) (args : List Value) (m : LMem) : Option (Value × LMem) :=
  match P.funcs[g]? with
  | none => none
  | some fn => match fn.body with
    | none => none
    | some c =>
      bif Nat.ble args.length fn.ntmps && Nat.ble fn.ntmps 512 then
        match ex c { tr := putArgs args 0 (FT.lf none), nt := fn.ntmps } m with
        | some (.norm, f', m') => (lresults P f' m' fn.results.toList).map fun vs => (ltuple vs, m')
        | some (.ret, f', m') => (lresults P f' m' fn.results.toList).map fun vs => (ltuple vs, m')
        | _ => none
      else none

/-- calls whose answers are known: a search tree by keys -/
inductive MT where
  | e
  | n (l : MT) (k : Nat) (g : Nat) (args : List Value) (v : Value) (r : MT)

def MT.toList : MT → List (Nat × List Value × Value)
  | .e => []
  | .n l _ g args v r => l.toList ++ (g, args, v) :: r.toList

noncomputable def MT.look (k g : Nat) (args : List Value) (t : MT) : Option Value :=
  MT.rec (motive := fun _ => Option Value) none (fun _ k' g' args' v _ ihl ihr =>
    Bool.rec (motive := fun _ => Option Value) (Bool.rec (motive := fun _ => Option Value) ihr ihl (Nat.blt k k')) (Bool.rec (motive := fun _ => Option Value) none (some v) (Nat.beq g g' && veqL (veq 7) args args')) (Nat.beq k k')) t

theorem MT.look_mem {k g : Nat} {args : List Value} {v : Value} : ∀ {t : MT}, t.look k g args = some v → ∃ args', (g, args', v) ∈ t.toList ∧ veqL (veq 7) args args' = true
  | .e, h => by have _s := SymT.tab; have _s := SymT.tab; cases h
  | .n l k' g' args' v' r, h => by
    have hh : Bool.rec (motive := fun _ => Option Value) (Bool.rec (motive := fun _ => Option Value) (r.look k g args) (l.look k g args) (Nat.blt k k')) (Bool.rec (motive := fun _ => Option Value) none (some v') (Nat.beq g g' && veqL (veq 7) args args')) (Nat.beq k k') = some v := h
    clear h
    have h := hh
    clear hh
    cases h1 : Nat.beq k k' with
    | true =>
      rw [h1] at h
      cases h2 : (Nat.beq g g' && veqL (veq 7) args args') with
      | false => rw [h2] at h; cases h
      | true =>
        rw [h2] at h
        have hv : some v' = some v := h
        rw [Bool.and_eq_true] at h2
        have hg := Nat.eq_of_beq_eq_true h2.1
        subst hg
        cases hv
        exact ⟨args', by simp [MT.toList], h2.2⟩
    | false =>
      rw [h1] at h
      cases h2 : Nat.blt k k' with
      | true => rw [h2] at h; obtain ⟨a, q1, q2⟩ := MT.look_mem (t := l) h; exact ⟨a, by simp [MT.toList, q1], q2⟩
      | false => rw [h2] at h; obtain ⟨a, q1, q2⟩ := MT.look_mem (t := r) h; exact ⟨a, by simp [MT.toList, q1], q2⟩

/-- values in which there are no blocks, made a number of -/
def pk1 (acc : Nat) : Value → Option Nat
  | .int _ (.ofNat n) => some (Nat.add (Nat.mul acc 73786976294838206464) (Nat.mul n 4))
  | .int _ (.negSucc n) => some (Nat.add (Nat.mul acc 73786976294838206464) (Nat.succ (Nat.mul n 4)))
  | .bool true => some (Nat.add (Nat.mul acc 4) 2)
  | .bool false => some (Nat.add (Nat.mul acc 4) 1)
  | .slice none _ _ => some (Nat.add (Nat.mul acc 4) 3)
  | .pointer none => some (Nat.mul acc 4)
  | _ => none

def pkL : List Value → Nat → Option Nat
  | [], acc => some acc
  | v :: r, acc => match pk1 acc v with
    | some a => pkL r a
    | none => none

def pkA (acc : Nat) : Value → Option Nat
  | .agg xs => pkL xs.toList acc
  | v => pk1 acc v

def pkey : List Value → Nat → Option Nat
  | [], acc => some acc
  | v :: r, acc => match pkA acc v with
    | some a => pkey r a
    | none => none

theorem pk1_pure {φ : Phi} {acc k : Nat} {v v' : Value} (h : pk1 acc v = some k) (hv : VR φ v v') : v' = v := by
  have _s := SymT.tab
  cases hv <;> first | rfl | (simp [pk1] at h; done)

theorem pkL_pure {φ : Phi} : ∀ {l l' : List Value} {acc k : Nat}, pkL l acc = some k → VRL φ l l' → l' = l
  | [], _, _, _, _, hv => by cases hv; rfl
  | x :: xs, _, acc, k, h, hv => by
    cases hv with
    | cons _ y _ ys h1 h2 =>
    simp only [pkL] at h
    split at h
    · rename_i a ha
      rw [pk1_pure ha h1, pkL_pure h h2]
    · cases h

theorem pkA_pure {φ : Phi} {acc k : Nat} {v v' : Value} (h : pkA acc v = some k) (hv : VR φ v v') : v' = v := by
  have _s := SymT.tab
  cases hv with
  | agg xs ys h1 =>
    have := pkL_pure h h1
    congr 1
    exact Array.ext' this
  | _ => first | rfl | (simp [pkA, pk1] at h; done)

theorem pkey_pure {φ : Phi} : ∀ {l l' : List Value} {acc k : Nat}, pkey l acc = some k → VRL φ l l' → l' = l
  | [], _, _, _, _, hv => by cases hv; rfl
  | x :: xs, _, acc, k, h, hv => by
    cases hv with
    | cons _ y _ ys h1 h2 =>
    simp only [pkey] at h
    split at h
    · rename_i a ha
      rw [pkA_pure ha h1, pkey_pure h h2]
    · cases h

noncomputable def looks1 (k g : Nat) (args : List Value) : List MT → Option Value
  | [] => none
  | t :: r => match t.look k g args with
    | some v => some v
    | none => looks1 k g args r

/-- the call's answer, if it is known -/
noncomputable def memo (Ts : List MT) (g : FuncId) (args : List Value) : Option Value :=
  match pkey args g with
  | some k => looks1 k g args Ts
  | none => none

def bitAt (n i : Nat) : Bool := Nat.beq (Nat.land (Nat.shiftRight n i) 1) 1

/-- the call, out of what is known or by its body; km: functions to look for; kr: functions that hold a range over a function -/
noncomputable def stepM (P : Program) (X : ExtT) (prim : FuncId → Option (List Value → LMem → Option (Value × LMem))) (Ts : List MT) (km kr : Nat) (fuel : Nat) (ih : CallT) (g : FuncId) (args : List Value) (m : LMem) : Option (Value × LMem) :=
  match (bif bitAt km g then memo Ts g args else none) with
  | some v => some (v, m)
  | none => match prim g with
    | some p => p args m
    | none => bif bitAt kr g then callBody P (rexec P X ih fuel 1000) g args m else callBody P (execF P X ih fuel) g args m

noncomputable def callM (P : Program) (X : ExtT) (prim : FuncId → Option (List Value → LMem → Option (Value × LMem))) (Ts : List MT) (km kr : Nat) (fuel : Nat) (n : Nat) : CallT :=
  Nat.rec (motive := fun _ => CallT) (fun _ _ _ => none) (fun _ ih g args m => stepM P X prim Ts km kr fuel ih g args m) n

section
variable {P : Program} {X : ExtT} {call : CallT}

/-- what the run of code must give -/
def ExOK (P : Program) (ex : ExT) : Prop :=
  ∀ (c : Code) (f f' : LF) (m m' : LMem) (x : LX), ex c f m = some (x, f', m') → LFok f → WF m → (m.next ≤ m'.next ∧ WF m' ∧ LFok f') ∧
    ∀ φ w a, MR φ m.get w → Bd φ m.next → FR φ f a → ∀ Q : Exit → Act → World → Prop, REnds m m' f' φ a w (Q (xit x)) → c.wpIn (FW none) 0 P Q a w

theorem execF_fun (fuel : Nat) : execF P X call fuel = exec P X call fuel := funext fun c => funext fun f => funext fun m => execF_eq P X call fuel c f m

theorem execF_ok (hP : POK P X) (hc : CallSound P call) (fuel : Nat) : ExOK P (execF P X call fuel) := by
  intro c f f' m m' x h hf hw
  rw [execF_eq] at h
  obtain ⟨g1, g2⟩ := (exec_sim hP hc fuel).1 c f f' m m' x h hf hw
  exact ⟨g1, fun φ w a hm hb hfr Q hE => (wpIn_wide (n := 0)).2 (g2 φ w a hm hb hfr Q hE.ends)⟩

def RLoop (P : Program) (X : ExtT) (call : CallT) (fuel n : Nat) : Prop :=
  ∀ (c : Code) (f f' : LF) (m m' : LMem) (x : LX), rexec P X call fuel n (.loop c) f m = some (x, f', m') → hasRF c = true → LFok f → WF m → (m.next ≤ m'.next ∧ WF m' ∧ LFok f') ∧
    ∀ φ w a, MR φ m.get w → Bd φ m.next → FR φ f a → ∀ Q : Exit → Act → World → Prop, REnds m m' f' φ a w (Q (xit x)) → Code.roundsIn (FW none) 0 P c Q n a w

theorem rexec_ok (hP : POK P X) (hc : CallSound P call) (fuel : Nat) : ∀ n, ExOK P (rexec P X call fuel n) ∧ RLoop P X call fuel n := by
  intro n
  induction n with
  | zero => exact ⟨fun c f f' m m' x h => by simp [rexec] at h, fun c f f' m m' x h => by simp [rexec] at h⟩
  | succ n ih =>
    obtain ⟨ihE, ihL⟩ := ih
    have hL : RLoop P X call fuel (n + 1) := by
      intro c f f' m m' x h hk hnt hw
      have hk' : hasRF (.loop c) = true := hk
      simp only [rexec, hk', cond_true] at h
      unfold seqX at h
      split at h
      · rename_i f1 m1 h1
        obtain ⟨g1, g2⟩ := ihE c f f1 m m1 .norm h1 hnt hw
        obtain ⟨q1, q2⟩ := ihL c f1 f' m1 m' x h hk g1.2.2 g1.2.1
        refine ⟨⟨Nat.le_trans g1.1 q1.1, q1.2⟩, fun φ w a hm hb hf Q hE => ?_⟩
        rw [roundsIn_succ]
        exact g2 φ w a hm hb hf _ fun φ1 w1 a1 hs1 hf1 hm1 hb1 hd1 => q2 φ1 w1 a1 hm1 hb1 hf1 Q (hE.step g1.1 hs1 hd1)
      · rename_i hno
        obtain ⟨g1, g2⟩ := ihE c f f' m m' x h hnt hw
        refine ⟨g1, fun φ w a hm hb hf Q hE => ?_⟩
        rw [roundsIn_succ]
        refine g2 φ w a hm hb hf _ fun φ1 w1 a1 hs1 hf1 hm1 hb1 hd1 => ?_
        have := hE φ1 w1 a1 hs1 hf1 hm1 hb1 hd1
        cases x with
        | norm => exact absurd h (hno f' m')
        | exit id => exact this
        | ret => exact this
    refine ⟨?_, hL⟩
    intro c f f' m m' x h hnt hw
    cases hk : hasRF c with
    | false =>
      simp only [rexec, hk, cond_false] at h
      exact execF_ok hP hc fuel c f f' m m' x h hnt hw
    | true =>
      cases c with
      | seq c1 c2 =>
        simp only [rexec, hk, cond_true] at h
        unfold seqX at h
        split at h
        · rename_i f1 m1 h1
          obtain ⟨g1, g2⟩ := ihE c1 f f1 m m1 .norm h1 hnt hw
          obtain ⟨q1, q2⟩ := ihE c2 f1 f' m1 m' x h g1.2.2 g1.2.1
          refine ⟨⟨Nat.le_trans g1.1 q1.1, q1.2⟩, fun φ w a hm hb hf Q hE => wpIn_seq ?_⟩
          exact g2 φ w a hm hb hf _ fun φ1 w1 a1 hs1 hf1 hm1 hb1 hd1 => q2 φ1 w1 a1 hm1 hb1 hf1 Q (hE.step g1.1 hs1 hd1)
        · rename_i hno
          obtain ⟨g1, g2⟩ := ihE c1 f f' m m' x h hnt hw
          refine ⟨g1, fun φ w a hm hb hf Q hE => wpIn_seq ?_⟩
          refine g2 φ w a hm hb hf _ fun φ1 w1 a1 hs1 hf1 hm1 hb1 hd1 => ?_
          have := hE φ1 w1 a1 hs1 hf1 hm1 hb1 hd1
          cases x with
          | norm => exact absurd h (hno f' m')
          | exit id => exact this
          | ret => exact this
      | cond o c1 c2 =>
        simp only [rexec, hk, cond_true] at h
        have key : ∀ (t : Bool) (b : Code), (if t then c1 else c2) = b → okOperand o = true ∨ (∃ v, o = .const v) → f.lev o = .bool t → rexec P X call fuel n b f m = some (x, f', m') → (m.next ≤ m'.next ∧ WF m' ∧ LFok f') ∧
            ∀ φ w a, MR φ m.get w → Bd φ m.next → FR φ f a → ∀ Q : Exit → Act → World → Prop, REnds m m' f' φ a w (Q (xit x)) → (Code.cond o c1 c2).wpIn (FW none) 0 P Q a w := by
          intro t b hb' ho hl hr
          obtain ⟨g1, g2⟩ := ihE b f f' m m' x hr hnt hw
          refine ⟨g1, fun φ w a hm hb hf Q hE => wpIn_cond (t := t) ?_ (by rw [hb']; exact g2 φ w a hm hb hf Q hE)⟩
          rcases ho with ho | ⟨v, rfl⟩
          · have := hf.eval ho
            rw [hl] at this
            generalize a.eval o = y at this
            cases this; rfl
          · exact hl
        have hop : okOperand o = true ∨ (∃ v, o = .const v) ∨ ∃ g, o = .global g := by
          cases o with
          | tmp t => exact .inl rfl
          | const v => exact .inr (.inl ⟨v, rfl⟩)
          | global g => exact .inr (.inr ⟨g, rfl⟩)
          | func g => exact .inl rfl
        unfold condF at h
        split at h
        · cases h
        · rename_i hng
          have hop' : okOperand o = true ∨ (∃ v, o = .const v) := by
            rcases hop with h1 | h1 | ⟨g, h1⟩
            · exact .inl h1
            · exact .inr h1
            · exact absurd h1 (hng g)
          split at h
          · rename_i hl; exact key true c1 rfl hop' hl h
          · rename_i hl; exact key false c2 rfl hop' hl h
          · cases h
      | block id c =>
        simp only [rexec, hk, cond_true] at h
        unfold blockF at h
        split at h
        · rename_i j f1 m1 h1
          obtain ⟨g1, g2⟩ := ihE c f f1 m m1 (.exit j) h1 hnt hw
          cases hj : Nat.beq j id with
          | true =>
            simp only [hj, cond_true, Option.some.injEq, Prod.mk.injEq] at h
            obtain ⟨rfl, rfl, rfl⟩ := h
            have := Nat.eq_of_beq_eq_true hj
            subst this
            refine ⟨g1, fun φ w a hm hb hf Q hE => wpIn_block (g2 φ w a hm hb hf _ fun φ1 w1 a1 hs1 hf1 hm1 hb1 hd1 => ?_)⟩
            simp only [xit, Exit.inBlock, if_true]
            exact hE φ1 w1 a1 hs1 hf1 hm1 hb1 hd1
          | false =>
            simp only [hj, cond_false, Option.some.injEq, Prod.mk.injEq] at h
            obtain ⟨rfl, rfl, rfl⟩ := h
            have hne : ¬ j = id := fun h0 => by rw [h0, Nat.beq_refl] at hj; cases hj
            refine ⟨g1, fun φ w a hm hb hf Q hE => wpIn_block (g2 φ w a hm hb hf _ fun φ1 w1 a1 hs1 hf1 hm1 hb1 hd1 => ?_)⟩
            simp only [xit, Exit.inBlock, if_neg hne]
            exact hE φ1 w1 a1 hs1 hf1 hm1 hb1 hd1
        · rename_i hno
          obtain ⟨g1, g2⟩ := ihE c f f' m m' x h hnt hw
          refine ⟨g1, fun φ w a hm hb hf Q hE => wpIn_block (g2 φ w a hm hb hf _ fun φ1 w1 a1 hs1 hf1 hm1 hb1 hd1 => ?_)⟩
          have := hE φ1 w1 a1 hs1 hf1 hm1 hb1 hd1
          cases x with
          | norm => exact this
          | exit j => exact absurd h (hno j f' m')
          | ret => exact this
      | loop c =>
        obtain ⟨g1, g2⟩ := hL c f f' m m' x h hk hnt hw
        exact ⟨g1, fun φ w a hm hb hf Q hE => wpIn_loop_rounds (n + 1) (g2 φ w a hm hb hf Q hE)⟩
      | rangeFunc g ps ca cb =>
        simp only [rexec, hk, cond_true] at h
        cases hok : (okR ca && okR cb) with
        | false => simp only [hok, cond_false] at h; cases h
        | true =>
          simp only [hok, cond_true] at h
          rw [Bool.and_eq_true] at hok
          rw [execF_fun] at h
          exact range_sim hP hc hok.1 hok.2 h hnt hw
      | skip => cases hk
      | region _ _ _ => cases hk
      | exit _ => cases hk
      | ret => cases hk
      | scope _ => cases hk
      | label _ => cases hk
      | goto _ => cases hk
      | refuse _ => cases hk

theorem leaves_marks {fn : Func} {tmps : Array Value} {R : Ending → World → Prop} : ∀ (Ds : List Nat) (w : World), Ds.Nodup → (∀ D ∈ Ds, w.heap[D]? = some (.deferred (some []))) →
    (∀ w', w' = Ds.foldl (fun w D => w.putObj D (.deferred none)) w → ∃ v, (results fn tmps).run P w' = .ok v w' ∧ R (.returned v) w') →
    LeavesInM (FW none) 0 P fn tmps R (Ds.map fun D => ({ target := .collected D, args := #[] } : Deferred)) .returning w
  | [], w, _, _, h => h w rfl
  | D :: Ds, w, hn, hd, h => by
    have _s := SymT.tab
    rw [List.nodup_cons] at hn
    refine ⟨by simp, .inl ⟨D, w.putObj D (.deferred none), rfl, run_takeDeferred (hd D (by simp)), ?_⟩⟩
    refine leaves_marks Ds _ hn.2 (fun E hE => ?_) h
    have hne : E ≠ D := fun he => hn.1 (he ▸ hE)
    exact (World.putObj_heap_other hne).trans (hd E (by simp [hE]))

theorem put_marks {n : Nat} {φ0 φ : Phi} {w0 : World} {G : Nat → Option LB} : ∀ (Ds : List Nat) (w : World), Sim n φ0 φ w0 w → MR φ G w → (∀ D ∈ Ds, w0.heap.size ≤ D ∧ (∀ id loc, φ id = some (some loc) → loc.b ≠ D) ∧ ∃ x, w.heap[D]? = some (.deferred x)) →
    Sim n φ0 φ w0 (Ds.foldl (fun w D => w.putObj D (.deferred none)) w) ∧ MR φ G (Ds.foldl (fun w D => w.putObj D (.deferred none)) w)
  | [], w, h1, h2, _ => ⟨h1, h2⟩
  | D :: Ds, w, h1, h2, h => by
    have hD := h D (by simp)
    refine put_marks Ds _ (simPut h1 _ hD.1) (mrPut h2 _ hD.2.1 (by obtain ⟨x, hx⟩ := hD.2.2; exact ⟨(fun c e fz q => by rw [hx] at q; cases q), fun es ck q => by rw [hx] at q; cases q⟩)) fun E hE => ?_
    obtain ⟨e1, e2, x, e3⟩ := h E (by simp [hE])
    refine ⟨e1, e2, ?_⟩
    by_cases he : E = D
    · subst he; exact ⟨none, World.putObj_heap_same (Array.getElem?_eq_some_iff.1 e3).1⟩
    · exact ⟨x, (World.putObj_heap_other he).trans e3⟩

theorem body_sound {ex : ExT} (hx : ExOK P ex) : CallSound P (callBody P ex) := by
  intro g args m v m' h hw
  unfold callBody at h
  split at h
  · cases h
  · rename_i fn hfn
    split at h
    · cases h
    · rename_i c hbody
      cases hq : (Nat.ble args.length fn.ntmps && Nat.ble fn.ntmps 512) with
      | false => simp only [hq, cond_false] at h; cases h
      | true =>
        simp only [hq, cond_true] at h
        rw [Bool.and_eq_true] at hq
        have hq1 := Nat.le_of_ble_eq_true hq.1
        have hq2 := Nat.le_of_ble_eq_true hq.2
        have key : ∀ (x : LX) (f' : LF) (m1 : LMem), (x = .norm ∨ x = .ret) → ex c { tr := putArgs args 0 (FT.lf none), nt := fn.ntmps } m = some (x, f', m1) →
            (lresults P f' m1 fn.results.toList).map (fun vs => (ltuple vs, m1)) = some (v, m') →
            (m.next ≤ m'.next ∧ WF m') ∧ ∀ φ w args', MR φ m.get w → Bd φ m.next → VRL φ args args' → Calls P g ⟨args'⟩ w (CallPost m m' v φ w) := by
          intro x f' m1 hxx hrun hres
          simp only [Option.map_eq_some_iff, Prod.mk.injEq] at hres
          obtain ⟨vs, hvs, rfl, rfl⟩ := hres
          obtain ⟨g1, g2⟩ := hx c _ f' m m1 x hrun ⟨hq2⟩ hw
          refine ⟨⟨g1.1, g1.2.1⟩, fun φ w args' hm hb hargs => (callsIn_wide (n := 0)).1 (callsIn_of_wp_marks hfn hbody trivial ?_)⟩
          refine g2 φ w _ hm hb (start_frame hargs hq1 hq2) _ fun φ1 w1 a1 hs1 hf1 hm1 hb1 hd1 => ?_
          obtain ⟨Ds, hds, hnd, hDs⟩ := hd1
          have hpost : LeavesInM (FW none) 0 P fn a1.tmps (CallPost m m1 (ltuple vs) φ w) a1.defers .returning w1 := by
            rw [hds, List.append_nil]
            refine leaves_marks Ds w1 hnd (fun D hD => (hDs D hD).2.1) fun w' hw' => ?_
            obtain ⟨k3, k4⟩ := put_marks Ds w1 hs1 hm1 fun D hD => ⟨(hDs D hD).1, (hDs D hD).2.2, _, (hDs D hD).2.1⟩
            rw [← hw'] at k3 k4
            obtain ⟨vs', k1, k2⟩ := results_sim (P := P) (G := fun
              | .tmp t => pure (a1.tmps.getD t undef)
              | .cell x t => do loadVar t (← asAddr (a1.tmps.getD x undef))) (fun _ => rfl) (fun _ _ => rfl) k4 hf1 fn.results.toList vs hvs
            refine ⟨_, ?_, _, φ1, rfl, k3, tuple_sim k2, k4, hb1⟩
            unfold results
            rw [Sem.run_bind, Array.mapM_eq_mapM_toList, Sem.run_map]
            refine Eq.trans (congrArg (fun r => Result.andThen (Result.andThen r _) _) (Eq.trans ?_ k1)) rfl
            rfl
          rcases hxx with rfl | rfl
          · exact hpost
          · exact hpost
        split at h
        · rename_i f' m1 hrun; exact key .norm f' m1 (.inl rfl) hrun h
        · rename_i f' m1 hrun; exact key .ret f' m1 (.inr rfl) hrun h
        · cases h

/-- a call whose answer is known -/
def Known (P : Program) (g : FuncId) (args : List Value) (v : Value) : Prop :=
  (∀ w, Calls P g ⟨args⟩ w fun e w' => e = .returned v ∧ Below w.heap.size w w') ∧ ∀ φ : Phi, VR φ v v

def MTK (P : Program) (T : MT) : Prop := ∀ g args v, (g, args, v) ∈ T.toList → Known P g args v

def MemoOK (P : Program) (Ts : List MT) : Prop := ∀ T ∈ Ts, MTK P T

theorem veq_sound {x y : List Value} (h : veqL (veq 7) x y = true) : x = y := veqL_eq (veq_eq 7) h

theorem looks1_mem {k g : Nat} {args : List Value} {v : Value} : ∀ {Ts : List MT}, looks1 k g args Ts = some v → ∃ T ∈ Ts, ∃ args', (g, args', v) ∈ T.toList ∧ veqL (veq 7) args args' = true
  | [], h => by cases h
  | t :: r, h => by
    simp only [looks1] at h
    split at h
    · rename_i v0 h0
      cases h
      obtain ⟨a, q1, q2⟩ := MT.look_mem h0
      exact ⟨t, by simp, a, q1, q2⟩
    · obtain ⟨T, q0, q⟩ := looks1_mem h
      exact ⟨T, by simp [q0], q⟩

theorem memo_sound {Ts : List MT} (hT : MemoOK P Ts) {g : FuncId} {args : List Value} {v : Value} (h : memo Ts g args = some v) {m : LMem} (hw : WF m) :
    (m.next ≤ m.next ∧ WF m) ∧ ∀ φ w args', MR φ m.get w → Bd φ m.next → VRL φ args args' → Calls P g ⟨args'⟩ w (CallPost m m v φ w) := by
  refine ⟨⟨Nat.le_refl _, hw⟩, fun φ w args' hm hb hv => ?_⟩
  unfold memo at h
  split at h
  · rename_i k hk
    obtain ⟨T, q0, a0, q1, q2⟩ := looks1_mem h
    have := veq_sound q2
    subst this
    obtain ⟨c1, c2⟩ := hT T q0 g _ v q1
    rw [pkey_pure hk hv]
    refine (c1 w).mono fun e w' ⟨he, hbel⟩ => ⟨v, φ, he, ⟨Ext.refl φ, fun id l h => .inl ⟨id, l, h, rfl⟩, fun _ _ h => h, ⟨hbel.os, hbel.tape, hbel.output, hbel.size, fun b hb _ => hbel.block b hb⟩⟩, c2 φ, ?_, hb⟩
    exact ⟨fun id loc hl => let ⟨b, h1, h2⟩ := hm.live id loc hl; ⟨b, h1, h2.mono (Ext.refl φ) (hbel.block _ h2.lt)⟩, hm.dead, hm.inj, hm.pin.at fun b hb _ => hbel.block b hb⟩
  · cases h

theorem callM_sound (hP : POK P X) {prim : FuncId → Option (List Value → LMem → Option (Value × LMem))} (hp : PrimOK P prim) {Ts : List MT} (hT : MemoOK P Ts) (km kr : Nat) (fuel : Nat) : ∀ n, CallSound P (callM P X prim Ts km kr fuel n) := by
  intro n
  induction n with
  | zero => intro g args m v m' h; cases h
  | succ n ih =>
    intro g args m v m' h hw
    have h : stepM P X prim Ts km kr fuel (callM P X prim Ts km kr fuel n) g args m = some (v, m') := h
    unfold stepM at h
    split at h
    · rename_i v0 hmem
      cases hk : bitAt km g with
      | false => rw [hk] at hmem; cases hmem
      | true =>
        rw [hk] at hmem
        cases h
        exact memo_sound hT hmem hw
    · split at h
      · rename_i p hpg; exact hp g p hpg args m v m' h hw
      · cases hk : bitAt kr g with
        | true => rw [hk] at h; exact body_sound (rexec_ok hP ih fuel 1000).1 g args m v m' h hw
        | false => rw [hk] at h; exact body_sound (execF_ok hP ih fuel) g args m v m' h hw

end
end Go.Eng
/- Known answers by closed runs; segments and closed laws over known answers. -/
namespace Go.Eng
open Go.RowKit
variable [SymV] [SymT]
section
variable {P : Program} {X : ExtT}

noncomputable def isKnown (r : Option (Value × LMem)) (v : Value) : Bool :=
  match r with
  | some (v', _) => veq 7 v' v && Nat.beq (ub v) 0
  | none => false

noncomputable def MT.allK (f : Nat → List Value → Option (Value × LMem)) : MT → Bool
  | .e => true
  | .n l _ g args v r => l.allK f && isKnown (f g args) v && r.allK f

def argsPlain : List Value → Bool
  | [] => true
  | v :: r => Nat.beq (ub v) 0 && argsPlain r

theorem argsPlain_refl {φ : Phi} : ∀ {l : List Value}, argsPlain l = true → VRL φ l l
  | [], _ => by have _s := SymT.tab; have _s := SymT.tab; exact .nil
  | v :: r, h => by
    simp only [argsPlain, Bool.and_eq_true] at h
    exact .cons _ _ _ _ (VR.refl 7 v (Nat.eq_of_beq_eq_true h.1)) (argsPlain_refl h.2)

theorem plain_same {φ : Phi} : ∀ (k : Nat) {v v' : Value}, ubF k v = 0 → VR φ v v' → v' = v := by
  have _s := SymT.tab
  intro k
  induction k with
  | zero => intro v v' h; simp [ubF] at h
  | succ k ih =>
    intro v v' h hv
    have hl : ∀ xs ys : List Value, ubL (ubF k) xs = 0 → VRL φ xs ys → ys = xs := by
      intro xs
      induction xs with
      | nil => intro ys _ hr; cases hr; rfl
      | cons x xs ihx =>
        intro ys h hr
        cases hr with
        | cons _ y _ ys h1 h2 =>
          simp only [ubL] at h
          have e1 := le_lmax_left (ubF k x) (ubL (ubF k) xs)
          have e2 := le_lmax_right (ubF k x) (ubL (ubF k) xs)
          rw [ih (by omega) h1, ihx ys (by omega) h2]
    cases hv with
    | func fn xs us ys vs h1 h2 =>
      simp only [ubF] at h
      have e1 := le_lmax_left (ubL (ubF k) xs.toList) (ubL (ubF k) us.toList)
      have e2 := le_lmax_right (ubL (ubF k) xs.toList) (ubL (ubF k) us.toList)
      have := hl _ _ (by omega) h1
      have := hl _ _ (by omega) h2
      congr 1 <;> apply Array.ext' <;> assumption
    | iface t x y h1 => rw [ih h h1]
    | agg xs ys h1 => congr 1; apply Array.ext'; exact hl _ _ h h1
    | tuple xs ys h1 => congr 1; apply Array.ext'; exact hl _ _ h h1
    | _ => first | rfl | (simp [ubF] at h; done)

theorem known_of {call : CallT} (hc : CallSound P call) {g : FuncId} {args : List Value} {v : Value} (ha : argsPlain args = true) (h : isKnown (call g args m0) v = true) (hnp : NoPin := by exact ⟨fun _ => trivial, fun _ h => h⟩) : Known P g args v := by
  unfold isKnown at h
  split at h
  · rename_i v' m hr
    rw [Bool.and_eq_true] at h
    have h1 := veq_eq 7 _ _ h.1
    subst h1
    have hu : ub v' = 0 := Nat.eq_of_beq_eq_true h.2
    refine ⟨fun w => ?_, fun φ => VR.refl 7 v' hu⟩
    have hs := (hc g args m0 _ _ hr m0_wf).2 (fun _ => none) w args
      ⟨fun id l h => (by cases h), fun id h => (by cases h), fun id jd l l' h => (by cases h), Pin.none hnp⟩ (fun id h => absurd rfl h) (argsPlain_refl ha)
    refine hs.mono fun e w' ⟨v2, φ', he, hsim, hv, _, _⟩ => ?_
    rw [plain_same 7 hu hv] at he
    exact ⟨he, hsim.fr.os, hsim.fr.tape, hsim.fr.output, hsim.fr.size, fun k hk => hsim.fr.same k hk fun id l h => by cases h⟩
  · cases h

noncomputable def MT.good (f : Nat → List Value → Option (Value × LMem)) : MT → Bool
  | .e => true
  | .n l _ g args v r => l.good f && (argsPlain args && isKnown (f g args) v) && r.good f

theorem good_okN {call : CallT} (hc : CallSound P call) (hnp : NoPin) : ∀ {t : MT}, t.good (fun g args => call g args m0) = true → MTK P t
  | .e, _ => fun g args v h => by cases h
  | .n l k g0 args0 v0 r, h => by
    simp only [MT.good, Bool.and_eq_true] at h
    intro g args v hm
    simp only [MT.toList, List.mem_append, List.mem_cons, Prod.mk.injEq] at hm
    rcases hm with hm | ⟨rfl, rfl, rfl⟩ | hm
    · exact good_okN hc hnp h.1.1 g args v hm
    · exact known_of hc h.1.2.1 h.1.2.2 hnp
    · exact good_okN hc hnp h.2 g args v hm

theorem good_ok {call : CallT} (hc : CallSound P call) {t : MT} (h : t.good (fun g args => call g args m0) = true) (hnp : NoPin := by exact ⟨fun _ => trivial, fun _ h => h⟩) : MTK P t := good_okN hc hnp h

theorem MTK.e : MTK P .e := by
  have _s := SymT.tab
  exact fun g args v h => by cases h

theorem MTK.n {l r : MT} {k g : Nat} {args : List Value} {v : Value} (hl : MTK P l) (hn : MTK P (.n .e k g args v .e)) (hr : MTK P r) : MTK P (.n l k g args v r) := by
  have _s := SymT.tab
  intro g' args' v' hm
  simp only [MT.toList, List.mem_append, List.mem_cons] at hm
  rcases hm with hm | hm | hm
  · exact hl _ _ _ hm
  · exact hn _ _ _ (by simp [MT.toList, hm])
  · exact hr _ _ _ hm

theorem seg_of_call {call : CallT} (hcs : CallSound P call) {s : Seg} (hs : SegFit s)
    (h : segRun (call s.g s.args (mem s.n s.pre)) s = true) : SC P s.g s.args (mem s.n s.pre) s.v (mem s.n' s.post) := by
  cases hr : call s.g s.args (mem s.n s.pre) with
  | none => rw [hr] at h; cases h
  | some r =>
    obtain ⟨v, m⟩ := r
    rw [hr] at h
    have h' : (Nat.beq m.next s.n' && veq 7 v s.v && holdsAll m s.post) = true := h
    simp only [Bool.and_eq_true] at h'
    obtain ⟨⟨h1, h2⟩, h3⟩ := h'
    have h1 := Nat.eq_of_beq_eq_true h1
    have h2 := veq_eq 7 _ _ h2
    subst h2
    have h3 := holdsAll_at h3
    have hw : WF (mem s.n s.pre) := mem_wf (Nat.le_trans hs.le hs.room) hs.pre
    have hc := hcs s.g s.args (mem s.n s.pre) _ _ hr hw
    refine ⟨⟨hs.le, mem_wf hs.room hs.post⟩, fun φ w args' hm hb ha => ?_⟩
    refine (hc.2 φ w args' hm hb ha).mono fun e w' ⟨v', φ', he, hsim, hv, hm', hb'⟩ => ?_
    rw [h1] at hb'
    obtain ⟨φ2, k1, k2, k3, k4, k5⟩ := killL (n := s.n') (l := s.post) hs.room hm' hb' fun p hp => ⟨(hs.post p hp).1, h3 p hp⟩
    exact ⟨v', φ2, he, ⟨hsim.ext.trans k1, fun id l hl => hsim.new id l (k3 id l hl), fun id hid h0 => k2 id (hsim.un id hid h0), hsim.fr⟩, hv.mono k1, k4, k5⟩

theorem segGoodM {call : CallT} (hcs : CallSound P call) {s : Seg} (hs : segOK s = true) (h : segRun (call s.g s.args (mem s.n s.pre)) s = true) : SegGood P s := ⟨segFit hs, seg_of_call hcs (segFit hs) h⟩

theorem trues_of_call {call : CallT} (hcs : CallSound P call) {f : FuncId} (h : isTrue (call f [] m0) = true) (hnp : NoPin := by exact ⟨fun _ => trivial, fun _ h => h⟩) : Trues P f := by
  intro w
  obtain ⟨m, hm⟩ := isTrue_some h
  have hs := (hcs f [] m0 _ _ hm m0_wf).2 (fun _ => none) w []
    ⟨fun id l h => (by cases h), fun id h => (by cases h), fun id jd l l' h => (by cases h), Pin.none hnp⟩ (fun id h => absurd rfl h) .nil
  refine hs.mono fun e w' ⟨v', φ', he, hsim, hv, _, _⟩ => ?_
  cases hv
  exact ⟨he, hsim.fr.os, hsim.fr.tape, hsim.fr.output, hsim.fr.size, fun k hk => hsim.fr.same k hk fun id l h => by cases h⟩
end
end Go.Eng
/- Segments laid elsewhere: block numbers renamed. -/
namespace Go.Eng

def renL (f : Value → Option Value) : List Value → Option (List Value)
  | [] => some []
  | x :: r => match f x with
    | some x' => (renL f r).map fun r' => x' :: r'
    | none => none

/-- a value with its blocks renamed (as far as the fuel goes) -/
def renV (ρ : Nat → Option Nat) : Nat → Value → Option Value
  | 0, _ => none
  | k + 1, v => match v with
    | .pointer (some a) => (ρ a.block).map fun b => .pointer (some ⟨b, a.off, a.spot⟩)
    | .slice (some a) l c => (ρ a.block).map fun b => .slice (some ⟨b, a.off, a.spot⟩) l c
    | .map (some r) => (ρ r).map fun b => .map (some b)
    | .chan (some _) => none
    | .func fn xs ys => match renL (renV ρ k) xs.toList with
      | some xs' => (renL (renV ρ k) ys.toList).map fun ys' => .func fn ⟨xs'⟩ ⟨ys'⟩
      | none => none
    | .iface t x => (renV ρ k x).map fun x' => .iface t x'
    | .agg xs => (renL (renV ρ k) xs.toList).map fun xs' => .agg ⟨xs'⟩
    | .tuple xs => (renL (renV ρ k) xs.toList).map fun xs' => .tuple ⟨xs'⟩
    | v => some v

/-- the two relations agree on renamed blocks -/
def Agrees (ρ : Nat → Option Nat) (φ φ2 : Phi) : Prop := ∀ id id2, ρ id = some id2 → φ id = φ2 id2

section
variable [SymV]

theorem renL_to {φ φ2 : Phi} {f : Value → Option Value} (hf : ∀ x x2 y, f x = some x2 → VR φ x y → VR φ2 x2 y) : ∀ {xs xs2 ys : List Value}, renL f xs = some xs2 → VRL φ xs ys → VRL φ2 xs2 ys
  | [], _, _, h, .nil => by cases h; exact .nil
  | x :: r, xs2, _, h, .cons _ y _ ys h1 h2 => by
    simp only [renL] at h
    split at h
    · rename_i x' hx
      simp only [Option.map_eq_some_iff] at h
      obtain ⟨r', hr, rfl⟩ := h
      exact .cons _ _ _ _ (hf _ _ _ hx h1) (renL_to hf hr h2)
    · cases h

theorem renL_of {φ φ2 : Phi} {f : Value → Option Value} (hf : ∀ x x2 y, f x = some x2 → VR φ2 x2 y → VR φ x y) : ∀ {xs xs2 ys : List Value}, renL f xs = some xs2 → VRL φ2 xs2 ys → VRL φ xs ys
  | [], _, _, h, hv => by cases h; cases hv; exact .nil
  | x :: r, xs2, _, h, hv => by
    simp only [renL] at h
    split at h
    · rename_i x' hx
      simp only [Option.map_eq_some_iff] at h
      obtain ⟨r', hr, rfl⟩ := h
      cases hv with
      | cons _ y _ ys h1 h2 => exact .cons _ _ _ _ (hf _ _ _ hx h1) (renL_of hf hr h2)
    · cases h

theorem renV_to {φ φ2 : Phi} {ρ : Nat → Option Nat} (hρ : Agrees ρ φ φ2) : ∀ (k : Nat) (x x2 y : Value), renV ρ k x = some x2 → VR φ x y → VR φ2 x2 y := by
  intro k
  induction k with
  | zero => intro x x2 y h; simp [renV] at h
  | succ k ih =>
    intro x x2 y h hv
    cases hv with
    | ptr b off l hl =>
      simp only [renV, Option.map_eq_some_iff] at h
      obtain ⟨b2, hb, rfl⟩ := h
      exact .ptr b2 off l (by rw [← hρ _ _ hb]; exact hl)
    | pdead b off sp a hl =>
      simp only [renV, Option.map_eq_some_iff] at h
      obtain ⟨b2, hb, rfl⟩ := h
      exact .pdead b2 off sp a (by rw [← hρ _ _ hb]; exact hl)
    | slice b off sp len cap cap' l hl h1 h2 h3 h4 =>
      simp only [renV, Option.map_eq_some_iff] at h
      obtain ⟨b2, hb, rfl⟩ := h
      exact .slice b2 off sp len cap cap' l (by rw [← hρ _ _ hb]; exact hl) h1 h2 h3 h4
    | sdead b off sp len cap cap' a hl h1 h2 h3 =>
      simp only [renV, Option.map_eq_some_iff] at h
      obtain ⟨b2, hb, rfl⟩ := h
      exact .sdead b2 off sp len cap cap' a (by rw [← hρ _ _ hb]; exact hl) h1 h2 h3
    | szero b off e o l hl =>
      simp only [renV, Option.map_eq_some_iff] at h
      obtain ⟨b2, hb, rfl⟩ := h
      exact .szero b2 off e o l (by rw [← hρ _ _ hb]; exact hl)
    | map r l hl =>
      simp only [renV, Option.map_eq_some_iff] at h
      obtain ⟨b2, hb, rfl⟩ := h
      exact .map b2 l (by rw [← hρ _ _ hb]; exact hl)
    | mdead r r' hl =>
      simp only [renV, Option.map_eq_some_iff] at h
      obtain ⟨b2, hb, rfl⟩ := h
      exact .mdead b2 r' (by rw [← hρ _ _ hb]; exact hl)
    | func fn xs us ys vs h1 h2 =>
      simp only [renV] at h
      split at h
      · rename_i xs' hx
        simp only [Option.map_eq_some_iff] at h
        obtain ⟨us', hu, rfl⟩ := h
        exact .func fn _ _ _ _ (renL_to ih hx h1) (renL_to ih hu h2)
      · cases h
    | iface t x y h1 =>
      simp only [renV, Option.map_eq_some_iff] at h
      obtain ⟨x', hx, rfl⟩ := h
      exact .iface t _ _ (ih _ _ _ hx h1)
    | agg xs ys h1 =>
      simp only [renV, Option.map_eq_some_iff] at h
      obtain ⟨xs', hx, rfl⟩ := h
      exact .agg _ _ (renL_to ih hx h1)
    | tuple xs ys h1 =>
      simp only [renV, Option.map_eq_some_iff] at h
      obtain ⟨xs', hx, rfl⟩ := h
      exact .tuple _ _ (renL_to ih hx h1)
    | bool b => cases h; exact .bool b
    | int k n => cases h; exact .int k n
    | string s => cases h; exact .string s
    | float k n => cases h; exact .float k n
    | sym k n m _ hv => cases h; exact .sym k n m _ hv
    | cnil => cases h; exact .cnil
    | pnil => cases h; exact .pnil
    | snil n c => cases h; exact .snil n c
    | mnil => cases h; exact .mnil
    | nilFunc => cases h; exact .nilFunc
    | nilIface => cases h; exact .nilIface

theorem renV_of {φ φ2 : Phi} {ρ : Nat → Option Nat} (hρ : Agrees ρ φ φ2) : ∀ (k : Nat) (x x2 y : Value), renV ρ k x = some x2 → VR φ2 x2 y → VR φ x y := by
  intro k
  induction k with
  | zero => intro x x2 y h; simp [renV] at h
  | succ k ih =>
    intro x x2 y h hv
    simp only [renV] at h
    split at h
    · rename_i a
      obtain ⟨b, off, sp⟩ := a
      simp only [Option.map_eq_some_iff] at h
      obtain ⟨b2, hb, rfl⟩ := h
      cases hv with
      | ptr _ _ l hl => exact .ptr b off l (by rw [hρ _ _ hb]; exact hl)
      | pdead _ _ _ a hl => exact .pdead b off sp a (by rw [hρ _ _ hb]; exact hl)
    · rename_i a len cap
      obtain ⟨b, off, sp⟩ := a
      simp only [Option.map_eq_some_iff] at h
      obtain ⟨b2, hb, rfl⟩ := h
      cases hv with
      | slice _ _ _ _ _ cap' l hl h1 h2 h3 h4 => exact .slice b off sp len cap cap' l (by rw [hρ _ _ hb]; exact hl) h1 h2 h3 h4
      | sdead _ _ _ _ _ cap' a hl h1 h2 h3 => exact .sdead b off sp len cap cap' a (by rw [hρ _ _ hb]; exact hl) h1 h2 h3
      | szero _ _ e o l hl => exact .szero b off e o l (by rw [hρ _ _ hb]; exact hl)
    · rename_i r
      simp only [Option.map_eq_some_iff] at h
      obtain ⟨b2, hb, rfl⟩ := h
      cases hv with
      | map _ l hl => exact .map r l (by rw [hρ _ _ hb]; exact hl)
      | mdead _ r' hl => exact .mdead r r' (by rw [hρ _ _ hb]; exact hl)
    · cases h
    · split at h
      · rename_i xs' hx
        simp only [Option.map_eq_some_iff] at h
        obtain ⟨us', hu, rfl⟩ := h
        cases hv with
        | func _ _ _ ys vs h1 h2 => exact .func _ _ _ _ _ (renL_of ih hx h1) (renL_of ih hu h2)
      · cases h
    · simp only [Option.map_eq_some_iff] at h
      obtain ⟨x', hx, rfl⟩ := h
      cases hv with
      | iface _ _ y h1 => exact .iface _ _ _ (ih _ _ _ hx h1)
    · simp only [Option.map_eq_some_iff] at h
      obtain ⟨xs', hx, rfl⟩ := h
      cases hv with
      | agg _ ys h1 => exact .agg _ _ (renL_of ih hx h1)
    · simp only [Option.map_eq_some_iff] at h
      obtain ⟨xs', hx, rfl⟩ := h
      cases hv with
      | tuple _ ys h1 => exact .tuple _ _ (renL_of ih hx h1)
    · rename_i n1 n2 n3 n4 n5 n6 n7 n8
      simp only [Option.some.injEq] at h
      subst h
      cases hv with
      | bool b => exact .bool b
      | int k n => exact .int k n
      | string s => exact .string s
      | float k n => exact .float k n
      | sym k n m _ hv => exact .sym k n m _ hv
      | cnil => exact .cnil
      | pnil => exact .pnil
      | snil n c => exact .snil n c
      | mnil => exact .mnil
      | nilFunc => exact .nilFunc
      | nilIface => exact .nilIface
      | ptr b off l hl => exact (n1 _ rfl).elim
      | pdead b off sp a hl => exact (n1 _ rfl).elim
      | slice b off sp len cap cap' l hl => exact (n2 _ _ _ rfl).elim
      | sdead b off sp len cap cap' a hl => exact (n2 _ _ _ rfl).elim
      | szero b off e o l hl => exact (n2 _ _ _ rfl).elim
      | map r l hl => exact (n3 _ rfl).elim
      | mdead r r' hl => exact (n3 _ rfl).elim
      | func fn xs us ys vs h1 h2 => exact (n5 _ _ _ rfl).elim
      | iface t x y h1 => exact (n6 _ _ rfl).elim
      | agg xs ys h1 => exact (n7 _ rfl).elim
      | tuple xs ys h1 => exact (n8 _ rfl).elim

end
end Go.Eng
/- Segments laid elsewhere: blocks with block numbers renamed. -/
namespace Go.Eng

theorem renL_len {f : Value → Option Value} : ∀ {xs xs2 : List Value}, renL f xs = some xs2 → xs2.length = xs.length
  | [], _, h => by cases h; rfl
  | x :: r, xs2, h => by
    simp only [renL] at h
    split at h
    · simp only [Option.map_eq_some_iff] at h
      obtain ⟨r', hr, rfl⟩ := h
      simp [renL_len hr]
    · cases h

theorem renL_at {f : Value → Option Value} : ∀ {xs xs2 : List Value}, renL f xs = some xs2 → ∀ {i : Nat} {v : Value}, xs[i]? = some v → ∃ v2, xs2[i]? = some v2 ∧ f v = some v2
  | [], _, h, i, v, hv => by simp at hv
  | x :: r, xs2, h, i, v, hv => by
    simp only [renL] at h
    split at h
    · rename_i x' hx
      simp only [Option.map_eq_some_iff] at h
      obtain ⟨r', hr, rfl⟩ := h
      cases i with
      | zero => simp at hv; subst hv; exact ⟨x', by simp, hx⟩
      | succ i => simpa using renL_at hr (by simpa using hv)
    · cases h

theorem renL_back {f : Value → Option Value} : ∀ {xs xs2 : List Value}, renL f xs = some xs2 → ∀ {i : Nat} {v2 : Value}, xs2[i]? = some v2 → ∃ v, xs[i]? = some v ∧ f v = some v2
  | [], _, h, i, v2, hv => by cases h; simp at hv
  | x :: r, xs2, h, i, v2, hv => by
    simp only [renL] at h
    split at h
    · rename_i x' hx
      simp only [Option.map_eq_some_iff] at h
      obtain ⟨r', hr, rfl⟩ := h
      cases i with
      | zero => simp at hv; subst hv; exact ⟨x, by simp, hx⟩
      | succ i => simpa using renL_back hr (by simpa using hv)
    · cases h

def renE (f : Value → Option Value) : List MapEntry → Option (List MapEntry)
  | [] => some []
  | e :: r => match f e.val with
    | some v => (renE f r).map fun r' => { key := e.key, val := v, born := e.born } :: r'
    | none => none

theorem renE_len {f : Value → Option Value} : ∀ {xs xs2 : List MapEntry}, renE f xs = some xs2 → xs2.length = xs.length
  | [], _, h => by cases h; rfl
  | x :: r, xs2, h => by
    simp only [renE] at h
    split at h
    · simp only [Option.map_eq_some_iff] at h
      obtain ⟨r', hr, rfl⟩ := h
      simp [renE_len hr]
    · cases h

theorem renE_at {f : Value → Option Value} : ∀ {xs xs2 : List MapEntry}, renE f xs = some xs2 → ∀ {i : Nat} {e : MapEntry}, xs[i]? = some e → ∃ e2 : MapEntry, xs2[i]? = some e2 ∧ f e.val = some e2.val ∧ e2.key = e.key ∧ e2.born = e.born
  | [], _, h, i, e, hv => by simp at hv
  | x :: r, xs2, h, i, e, hv => by
    simp only [renE] at h
    split at h
    · rename_i x' hx
      simp only [Option.map_eq_some_iff] at h
      obtain ⟨r', hr, rfl⟩ := h
      cases i with
      | zero => simp at hv; subst hv; exact ⟨{ key := x.key, val := x', born := x.born }, by simp, hx, rfl, rfl⟩
      | succ i => simpa using renE_at hr (by simpa using hv)
    · cases h

theorem renE_back {f : Value → Option Value} : ∀ {xs xs2 : List MapEntry}, renE f xs = some xs2 → ∀ {i : Nat} {e2 : MapEntry}, xs2[i]? = some e2 → ∃ e : MapEntry, xs[i]? = some e ∧ f e.val = some e2.val ∧ e2.key = e.key ∧ e2.born = e.born
  | [], _, h, i, e2, hv => by cases h; simp at hv
  | x :: r, xs2, h, i, e2, hv => by
    simp only [renE] at h
    split at h
    · rename_i x' hx
      simp only [Option.map_eq_some_iff] at h
      obtain ⟨r', hr, rfl⟩ := h
      cases i with
      | zero => simp at hv; subst hv; exact ⟨x, by simp, hx, rfl, rfl⟩
      | succ i => simpa using renE_back hr (by simpa using hv)
    · cases h

def renB (ρ : Nat → Option Nat) : LB → Option LB
  | .cells c => (renL (renV ρ 7) c).map fun c' => .cells c'
  | .ro c => (renL (renV ρ 7) c).map fun c' => .ro c'
  | .map es ck => (renE (renV ρ 7) es).map fun es' => .map es' ck
  | .dead => some .dead

section
variable [SymV]

theorem renB_of {φ φ2 : Phi} {ρ : Nat → Option Nat} (hρ : Agrees ρ φ φ2) {b b2 : LB} {l : Loc} {w : World} (h : renB ρ b = some b2) (hb : BR φ2 b2 l w) : BR φ b l w := by
  cases b with
  | cells c =>
    simp only [renB, Option.map_eq_some_iff] at h
    obtain ⟨c2, hc, rfl⟩ := h
    obtain ⟨c', e, h1, h2, h3, h4⟩ := hb
    refine ⟨c', e, h1, h2, by rw [← renL_len hc]; exact h3, fun i v hv => ?_⟩
    obtain ⟨v2, g1, g2⟩ := renL_at hc hv
    obtain ⟨v', g3, g4⟩ := h4 i v2 g1
    exact ⟨v', g3, renV_of hρ 7 _ _ _ g2 g4⟩
  | ro c =>
    simp only [renB, Option.map_eq_some_iff] at h
    obtain ⟨c2, hc, rfl⟩ := h
    obtain ⟨c', e, fz, h1, h2, h3, h4⟩ := hb
    refine ⟨c', e, fz, h1, h2, by rw [← renL_len hc]; exact h3, fun i v hv => ?_⟩
    obtain ⟨v2, g1, g2⟩ := renL_at hc hv
    obtain ⟨v', g3, g4⟩ := h4 i v2 g1
    exact ⟨v', g3, renV_of hρ 7 _ _ _ g2 g4⟩
  | map es ck =>
    simp only [renB, Option.map_eq_some_iff] at h
    obtain ⟨es2, hc, rfl⟩ := h
    obtain ⟨es', h1, h2⟩ := hb
    refine ⟨es', h1, by rw [← renE_len hc]; exact h2.len, fun i e he => ?_⟩
    obtain ⟨e2, g1, g2, g3, g4⟩ := renE_at hc he
    obtain ⟨e', f1, f2, f3, f4, f5⟩ := h2.at_ i e2 g1
    exact ⟨e', f1, by rw [f2, g3], by rw [← g3]; exact f3, by rw [f4, g4], renV_of hρ 7 _ _ _ g2 f5⟩
  | dead => cases h; exact hb.elim

theorem renB_to {φ φ2 : Phi} {ρ : Nat → Option Nat} (hρ : Agrees ρ φ φ2) {b b2 : LB} {l : Loc} {w : World} (h : renB ρ b = some b2) (hb : BR φ b l w) : BR φ2 b2 l w := by
  cases b with
  | cells c =>
    simp only [renB, Option.map_eq_some_iff] at h
    obtain ⟨c2, hc, rfl⟩ := h
    obtain ⟨c', e, h1, h2, h3, h4⟩ := hb
    refine ⟨c', e, h1, h2, by rw [renL_len hc]; exact h3, fun i v2 hv => ?_⟩
    obtain ⟨v, g1, g2⟩ := renL_back hc hv
    obtain ⟨v', g3, g4⟩ := h4 i v g1
    exact ⟨v', g3, renV_to hρ 7 _ _ _ g2 g4⟩
  | ro c =>
    simp only [renB, Option.map_eq_some_iff] at h
    obtain ⟨c2, hc, rfl⟩ := h
    obtain ⟨c', e, fz, h1, h2, h3, h4⟩ := hb
    refine ⟨c', e, fz, h1, h2, by rw [renL_len hc]; exact h3, fun i v2 hv => ?_⟩
    obtain ⟨v, g1, g2⟩ := renL_back hc hv
    obtain ⟨v', g3, g4⟩ := h4 i v g1
    exact ⟨v', g3, renV_to hρ 7 _ _ _ g2 g4⟩
  | map es ck =>
    simp only [renB, Option.map_eq_some_iff] at h
    obtain ⟨es2, hc, rfl⟩ := h
    obtain ⟨es', h1, h2⟩ := hb
    refine ⟨es', h1, by rw [renE_len hc]; exact h2.len, fun i e2 he => ?_⟩
    obtain ⟨e, g1, g2, g3, g4⟩ := renE_back hc he
    obtain ⟨e', f1, f2, f3, f4, f5⟩ := h2.at_ i e g1
    exact ⟨e', f1, by rw [f2, g3], by rw [g3]; exact f3, by rw [f4, g4], renV_to hρ 7 _ _ _ g2 f5⟩
  | dead => cases h; exact hb.elim

end
end Go.Eng
/- States told by a pattern: behind a call the memory is led back to a canonical form (blocks renamed, what nobody names forgotten). -/
namespace Go.Eng
open Go.RowKit
variable [SymV] [SymT]

/-- a renaming: the canonical number ↦ the run's number -/
def rlk : List (Nat × Nat) → Nat → Option Nat
  | [], _ => none
  | (i, j) :: r, k => if i = k then some j else rlk r k

theorem rlk_mem : ∀ {ρ : List (Nat × Nat)} {i j : Nat}, rlk ρ i = some j → (i, j) ∈ ρ
  | [], _, _, h => by have _s := SymT.tab; simp [rlk] at h
  | (a, b) :: r, i, j, h => by
    simp only [rlk] at h
    by_cases he : a = i
    · rw [if_pos he] at h; cases h; subst he; simp
    · rw [if_neg he] at h; have := rlk_mem h; simp [this]

def memNat (x : Nat) : List Nat → Bool
  | [] => false
  | y :: r => Nat.beq x y || memNat x r

def distN : List (Nat × Nat) → Bool
  | [] => true
  | p :: r => !memNat p.2 (r.map (·.2)) && distN r

theorem memNat_iff {x : Nat} : ∀ {l : List Nat}, memNat x l = true ↔ x ∈ l
  | [] => by have _s := SymT.tab; simp [memNat]
  | y :: r => by
    simp only [memNat, Bool.or_eq_true, memNat_iff, List.mem_cons]
    constructor
    · rintro (h | h)
      · exact .inl (Nat.eq_of_beq_eq_true h)
      · exact .inr h
    · rintro (h | h)
      · subst h; exact .inl (Nat.beq_refl x)
      · exact .inr h

theorem distN_inj : ∀ {ρ : List (Nat × Nat)}, distN ρ = true → ∀ {i i' j : Nat}, rlk ρ i = some j → rlk ρ i' = some j → i = i'
  | [], _, _, _, _, h, _ => by have _s := SymT.tab; simp [rlk] at h
  | (a, b) :: r, hd, i, i', j, h, h' => by
    simp only [distN, Bool.and_eq_true, Bool.not_eq_true'] at hd
    simp only [rlk] at h h'
    by_cases e1 : a = i
    · rw [if_pos e1] at h
      cases h
      by_cases e2 : a = i'
      · rw [← e1, ← e2]
      · rw [if_neg e2] at h'
        have : memNat b (r.map (·.2)) = true := memNat_iff.2 (List.mem_map.2 ⟨_, rlk_mem h', rfl⟩)
        rw [this] at hd; exact absurd hd.1 (by simp)
    · rw [if_neg e1] at h
      by_cases e2 : a = i'
      · rw [if_pos e2] at h'
        cases h'
        have : memNat b (r.map (·.2)) = true := memNat_iff.2 (List.mem_map.2 ⟨_, rlk_mem h, rfl⟩)
        rw [this] at hd; exact absurd hd.1 (by simp)
      · rw [if_neg e2] at h'
        exact distN_inj hd.2 h h'

noncomputable def canonB (ρ : List (Nat × Nat)) (n : Nat) (m : LMem) (p : Nat × LB) : Bool :=
  Nat.blt p.1 n && Nat.ble (ubB p.2) n && (match rlk ρ p.1 with
    | none => false
    | some j => match renB (rlk ρ) p.2 with
      | none => false
      | some b => match m.get j with
        | none => false
        | some b' => lbeq b b')

/-- is the memory, its blocks renamed, the canonical one? -/
noncomputable def canonOK (ρ : List (Nat × Nat)) (n : Nat) (l : List (Nat × LB)) (m : LMem) : Bool :=
  Nat.ble n 16384 && distN ρ && l.all (canonB ρ n m) && ρ.all (fun p => hasId l p.1)

/-- where the canonical blocks lie -/
def canonP (ρ : List (Nat × Nat)) (φ : Phi) : Phi := fun id => match rlk ρ id with
  | some j => φ j
  | none => none

theorem canonP_agrees (ρ : List (Nat × Nat)) (φ : Phi) : Agrees (rlk ρ) (canonP ρ φ) φ := by
  have _s := SymT.tab
  intro id id2 h
  show (match rlk ρ id with | some j => φ j | none => none) = φ id2
  rw [h]

theorem canonP_some {ρ : List (Nat × Nat)} {φ : Phi} {id : Nat} {x : Option Loc} (h : canonP ρ φ id = some x) : ∃ j, rlk ρ id = some j ∧ φ j = some x := by
  have _s := SymT.tab
  unfold canonP at h
  cases hr : rlk ρ id with
  | none => rw [hr] at h; cases h
  | some j => rw [hr] at h; exact ⟨j, rfl, h⟩

theorem renB_dead {ρ : Nat → Option Nat} {b : LB} (h : renB ρ b = some .dead) : b = .dead := by
  have _s := SymT.tab
  cases b <;> simp [renB] at h ⊢

theorem canon_mr {ρ : List (Nat × Nat)} {n : Nat} {l : List (Nat × LB)} {m : LMem} {φ : Phi} {w : World} (h : canonOK ρ n l m = true) (hm : MR φ m.get w) :
    MR (canonP ρ φ) (mem n l).get w ∧ Bd (canonP ρ φ) n ∧ WF (mem n l) := by
  unfold canonOK at h
  simp only [Bool.and_eq_true, List.all_eq_true] at h
  obtain ⟨⟨⟨h1, h2⟩, h3⟩, h4⟩ := h
  have hn := Nat.le_of_ble_eq_true h1
  have hb : ∀ p ∈ l, p.1 < n ∧ ubB p.2 ≤ n ∧ ∃ j b, rlk ρ p.1 = some j ∧ renB (rlk ρ) p.2 = some b ∧ m.get j = some b := by
    intro p hp
    have := h3 p hp
    unfold canonB at this
    simp only [Bool.and_eq_true] at this
    obtain ⟨⟨q1, q2⟩, q3⟩ := this
    refine ⟨blt_lt q1, Nat.le_of_ble_eq_true q2, ?_⟩
    split at q3
    · cases q3
    · rename_i j hj
      split at q3
      · cases q3
      · rename_i b hb
        split at q3
        · cases q3
        · rename_i b' hb'
          have := lbeq_eq q3
          subst this
          exact ⟨j, b, hj, hb, hb'⟩
  have hl' : ∀ p ∈ l, p.1 < 65536 := fun p hp => by have := (hb p hp).1; omega
  have key : ∀ id j, rlk ρ id = some j → ∃ b b2, lk l id = some b ∧ id < n ∧ renB (rlk ρ) b = some b2 ∧ m.get j = some b2 := by
    intro id j hj
    obtain ⟨b, hk⟩ := hasId_lk.1 (h4 _ (rlk_mem hj))
    obtain ⟨q1, q2, j', b2, q3, q4, q5⟩ := hb _ (lk_mem hk)
    simp only at q1 q3 q4
    rw [hj] at q3
    cases q3
    exact ⟨b, b2, hk, q1, q4, q5⟩
  refine ⟨⟨?_, ?_, ?_, hm.pin.sub fun id x hx => ?_⟩, ?_, mem_wf hn fun p hp => ⟨(hb p hp).1, (hb p hp).2.1⟩⟩
  · intro id x hx
    obtain ⟨j, hj, hx⟩ := canonP_some hx
    obtain ⟨b, b2, k1, k2, k3, k4⟩ := key id j hj
    obtain ⟨b3, g1, g2⟩ := hm.live j x hx
    rw [k4] at g1
    cases g1
    exact ⟨b, by rw [mem_get hl' hn k2, k1]; rfl, renB_of (canonP_agrees ρ φ) k3 g2⟩
  · intro id hx
    obtain ⟨j, hj, hx⟩ := canonP_some hx
    obtain ⟨b, b2, k1, k2, k3, k4⟩ := key id j hj
    have := hm.dead j hx
    rw [k4] at this
    cases this
    rw [mem_get hl' hn k2, k1, renB_dead k3]
    rfl
  · intro id jd x y hx hy he
    obtain ⟨i, hi, hx⟩ := canonP_some hx
    obtain ⟨j, hj, hy⟩ := canonP_some hy
    have := hm.inj i j x y hx hy he
    subst this
    exact distN_inj h2 hi hj
  · obtain ⟨j, _, hx⟩ := canonP_some hx
    exact ⟨j, x, hx, rfl⟩
  · intro id hx
    cases hc : canonP ρ φ id with
    | none => exact absurd hc hx
    | some x =>
      obtain ⟨j, hj, _⟩ := canonP_some hc
      obtain ⟨b, b2, k1, k2, _⟩ := key id j hj
      exact k2

/-- the world holds a canonical memory, all of it in blocks from base on -/
structure St (base n : Nat) (l : List (Nat × LB)) (φ : Phi) (w : World) : Prop where
  mr : MR φ (mem n l).get w
  bd : Bd φ n
  from_ : ∀ id x, φ id = some (some x) → base ≤ x.b
  size : base ≤ w.heap.size

/-- a call that answers, from one canonical memory to another -/
def CS (P : Program) (g : FuncId) (args : List Value) (n : Nat) (l : List (Nat × LB)) (v : Value) (n' : Nat) (l' : List (Nat × LB)) (R : List Nat) : Prop :=
  ∀ base φ w args', St base n l φ w → VRL φ args args' → Calls P g ⟨args'⟩ w fun e w' =>
    ∃ r ψ, e = .returned r ∧ VR ψ v r ∧ St base n' l' ψ w' ∧ Below base w w' ∧ (∀ id ∈ R, ψ id = φ id) ∧
      ∀ id x, ψ id = some (some x) → (∃ jd y, φ jd = some (some y) ∧ y.b = x.b) ∨ w.heap.size ≤ x.b

def rootOK (ρ : List (Nat × Nat)) (n : Nat) (l' : List (Nat × LB)) (id : Nat) : Bool :=
  Nat.blt id n && (match rlk ρ id with | some j => Nat.beq j id | none => false) && (match lk l' id with | some .dead => false | some _ => true | none => false)

/-- the run's blocks that the canonical ones stand for -/
def keepOf (ρ : List (Nat × Nat)) : List (Nat × LB) → List (Nat × LB)
  | [] => []
  | (i, b) :: r => match b with
    | .dead => keepOf ρ r
    | b => match rlk ρ i with
      | none => keepOf ρ r
      | some j => match renB (rlk ρ) b with
        | none => keepOf ρ r
        | some b' => (j, b') :: keepOf ρ r

noncomputable def csRun (r : Option (Value × LMem)) (ρ : List (Nat × Nat)) (v : Value) (n' : Nat) (l' : List (Nat × LB)) : Bool :=
  match r with
  | some (v', m) => (match renV (rlk ρ) 7 v with
    | some u => veq 7 u v'
    | none => false) && holdsAll m (keepOf ρ l') && canonOK ρ n' l' (mem m.next (keepOf ρ l'))
  | none => false

def memOK (n : Nat) (l : List (Nat × LB)) : Bool := Nat.ble n 16384 && l.all (fun p => Nat.blt p.1 n && Nat.ble (ubB p.2) n)

theorem cs_of_run {P : Program} {call : CallT} (hcs : CallSound P call) {g : FuncId} {args : List Value} {n : Nat} {l : List (Nat × LB)} {ρ : List (Nat × Nat)} {v : Value} {n' : Nat} {l' : List (Nat × LB)} {R : List Nat}
    (hok : memOK n l = true) (hr : R.all (rootOK ρ n l') = true) (h : csRun (call g args (mem n l)) ρ v n' l' = true) : CS P g args n l v n' l' R := by
  intro base φ w args' hst ha
  cases hc : call g args (mem n l) with
  | none => rw [hc] at h; cases h
  | some q =>
    obtain ⟨v', m⟩ := q
    rw [hc] at h
    have h' : ((match renV (rlk ρ) 7 v with | some u => veq 7 u v' | none => false) && holdsAll m (keepOf ρ l') && canonOK ρ n' l' (mem m.next (keepOf ρ l'))) = true := h
    rw [Bool.and_eq_true, Bool.and_eq_true] at h'
    obtain ⟨⟨h1, h3⟩, h2⟩ := h'
    have h3 := holdsAll_at h3
    unfold memOK at hok
    simp only [Bool.and_eq_true, List.all_eq_true] at hok
    have hw : WF (mem n l) := mem_wf (Nat.le_of_ble_eq_true hok.1) fun p hp => ⟨blt_lt (hok.2 p hp).1, Nat.le_of_ble_eq_true (hok.2 p hp).2⟩
    have hcall := hcs g args _ _ _ hc hw
    refine (hcall.2 φ w args' hst.mr hst.bd ha).mono fun e w' ⟨r, φ0, he, hsim, hv0, hm0, hb0⟩ => ?_
    obtain ⟨φ', x1, x2, x3, hm, hb⟩ := killL (n := m.next) (l := keepOf ρ l') hcall.1.2.room hm0 hb0 fun p hp => ⟨LMem.get_lt (h3 p hp), h3 p hp⟩
    have hv := hv0.mono x1
    have hext := hsim.ext.trans x1
    obtain ⟨k1, k2, k3⟩ := canon_mr h2 hm
    split at h1
    · rename_i u hu
      have := veq_eq 7 _ _ h1
      subst this
      have hnew : ∀ id x, canonP ρ φ' id = some (some x) → (∃ jd y, φ jd = some (some y) ∧ y.b = x.b) ∨ w.heap.size ≤ x.b := fun id x hx => by
        obtain ⟨j, hj, hx⟩ := canonP_some hx
        exact hsim.new j x (x3 j x hx)
      refine ⟨r, canonP ρ φ', he, renV_of (canonP_agrees ρ φ') 7 _ _ _ hu hv, ⟨k1, k2, fun id x hx => ?_, Nat.le_trans hst.size hsim.fr.size⟩, ?_, ?_, hnew⟩
      · rcases hnew id x hx with ⟨jd, y, q1, q2⟩ | q
        · rw [← q2]; exact hst.from_ jd y q1
        · exact Nat.le_trans hst.size q
      · exact ⟨hsim.fr.os, hsim.fr.tape, hsim.fr.output, hsim.fr.size, fun b hb => hsim.fr.same b (Nat.lt_of_lt_of_le hb hst.size) fun id x hx he => by have := hst.from_ id x hx; omega⟩
      · intro id hid
        have := List.all_eq_true.1 hr id hid
        unfold rootOK at this
        simp only [Bool.and_eq_true] at this
        obtain ⟨⟨q1, q2⟩, q3⟩ := this
        split at q2
        · rename_i j hj
          have := Nat.eq_of_beq_eq_true q2
          subst this
          have hcp : canonP ρ φ' j = φ' j := canonP_agrees ρ φ' _ _ hj
          rw [hcp]
          cases hp : φ j with
          | none => exact x2 j (hsim.un j (blt_lt q1) hp)
          | some x =>
            rcases hext j (by rw [hp]; simp) with g | g
            · rw [g, hp]
            · have hd := k1.dead j (by rw [hcp, g])
              have hlt : j < n' := k2 j (by rw [hcp, g]; simp)
              have hl' : ∀ p ∈ l', p.1 < 65536 := by
                unfold canonOK at h2
                simp only [Bool.and_eq_true, List.all_eq_true] at h2
                intro p hp
                have := h2.1.2 p hp
                unfold canonB at this
                simp only [Bool.and_eq_true] at this
                have := blt_lt this.1.1
                have := Nat.le_of_ble_eq_true h2.1.1.1
                omega
              have hn' : n' ≤ 16384 := by
                unfold canonOK at h2
                simp only [Bool.and_eq_true] at h2
                exact Nat.le_of_ble_eq_true h2.1.1.1
              rw [mem_get hl' hn' hlt] at hd
              split at q3
              · cases q3
              · rename_i b hne hk
                rw [hk] at hd
                simp at hd
                exact absurd hd (fun hh => hne (by first | (rw [← hh]; done) | (rw [← hh]; exact hk)))
              · cases q3
        · cases q2
    · cases h1

/-- a call that answers, told by equations: for values that a run does not look into -/
theorem cs_of_eq {P : Program} {call : CallT} (hcs : CallSound P call) {g : FuncId} {args : List Value} {n : Nat} {l : List (Nat × LB)} {v : Value} {m' : LMem} {n' : Nat} {l' : List (Nat × LB)} {R : List Nat}
    (hok : n ≤ 16384 ∧ ∀ p ∈ l, p.1 < n ∧ ubB p.2 ≤ n) (hrun : call g args (mem n l) = some (v, m')) (hget : ∀ p ∈ l', m'.get p.1 = some p.2) (hn : n' ≤ m'.next)
    (hl : ∀ p ∈ l', p.1 < n' ∧ ubB p.2 ≤ n') (hv : ub v ≤ n') (hR : ∀ id ∈ R, id < n ∧ id < n' ∧ ∃ b, lk l' id = some b ∧ b ≠ .dead) : CS P g args n l v n' l' R := by
  intro base φ w args' hst ha
  have hw : WF (mem n l) := mem_wf hok.1 hok.2
  have hcall := hcs g args _ _ _ hrun hw
  have hroom := hcall.1.2.room
  have hl65 : ∀ p ∈ l', p.1 < 65536 := fun p hp => by have := (hl p hp).1; omega
  refine (hcall.2 φ w args' hst.mr hst.bd ha).mono fun e w' ⟨r, φ0, he, hsim, hv0, hm0, hb0⟩ => ?_
  obtain ⟨φ', x1, x2, x3, hm, hb⟩ := killL (n := m'.next) (l := l') hroom hm0 hb0 fun p hp => ⟨LMem.get_lt (hget p hp), hget p hp⟩
  have hext := hsim.ext.trans x1
  have hget' : ∀ id, id < n' → (mem n' l').get id = (mem m'.next l').get id := fun id hid => by
    rw [mem_get hl65 (by omega) hid, mem_get hl65 hroom (by omega)]
  have hcut : ∀ id x, cut φ' n' id = some x → id < n' ∧ φ' id = some x := fun id x h => by
    unfold cut at h
    split at h
    · exact ⟨by assumption, h⟩
    · cases h
  have hnew : ∀ id x, cut φ' n' id = some (some x) → (∃ jd y, φ jd = some (some y) ∧ y.b = x.b) ∨ w.heap.size ≤ x.b := fun id x hx => hsim.new id x (x3 id x (hcut id _ hx).2)
  have hN : n' < 1152921504606846976 := by omega
  refine ⟨r, cut φ' n', he, (hv0.mono x1).cut hN 7 hv, ⟨⟨fun id x h => ?_, fun id h => ?_, fun id jd x y h1 h2 => hm.inj id jd x y (hcut id _ h1).2 (hcut jd _ h2).2, hm.pin.sub fun id x h => ⟨id, x, (hcut id _ h).2, rfl⟩⟩, fun id h => ?_, fun id x hx => ?_, Nat.le_trans hst.size hsim.fr.size⟩, ?_, ?_, hnew⟩
  · obtain ⟨h1, h2⟩ := hcut id _ h
    obtain ⟨b, q1, q2⟩ := hm.live id x h2
    rw [hget' id h1]
    refine ⟨b, q1, q2.cut hN ?_⟩
    rw [mem_get hl65 hroom (by omega)] at q1
    cases hk : lk l' id with
    | none => rw [hk] at q1; cases q1; exact q2.elim
    | some b' => rw [hk] at q1; cases q1; exact (hl _ (lk_mem hk)).2
  · obtain ⟨h1, h2⟩ := hcut id _ h
    rw [hget' id h1]
    exact hm.dead id h2
  · cases hc : cut φ' n' id with
    | none => exact absurd hc h
    | some x => exact (hcut id _ hc).1
  · rcases hnew id x hx with ⟨jd, y, q1, q2⟩ | q
    · rw [← q2]; exact hst.from_ jd y q1
    · exact Nat.le_trans hst.size q
  · exact ⟨hsim.fr.os, hsim.fr.tape, hsim.fr.output, hsim.fr.size, fun b hb => hsim.fr.same b (Nat.lt_of_lt_of_le hb hst.size) fun id x hx he => by have := hst.from_ id x hx; omega⟩
  · intro id hid
    obtain ⟨r1, r2, b, r3, r4⟩ := hR id hid
    rw [cut_at r2]
    cases hp : φ id with
    | none => exact x2 id (hsim.un id r1 hp)
    | some x =>
      rcases hext id (by rw [hp]; simp) with g | g
      · rw [g, hp]
      · have hd := hm.dead id g
        rw [mem_get hl65 hroom (by omega), r3] at hd
        simp at hd
        exact absurd hd r4

noncomputable def outM (r : Option (Value × LMem)) : LMem :=
  match r with
  | some (_, m) => m
  | none => m0

theorem lk_nil (j : Nat) : lk [] j = none := by
  have _s := SymT.tab
  rfl

/-- at the start: block 0 is dead (numbers that are not known name it) -/
def phiS : Phi := fun id => if id = 0 then some none else none
def memS : List (Nat × LB) := [(0, .dead)]

theorem St.start (w : World) (hnp : NoPin := by exact ⟨fun _ => trivial, fun _ h => h⟩) : St w.heap.size 1 memS phiS w := by
  have _s := SymT.tab
  refine ⟨⟨fun id x h => ?_, fun id h => ?_, fun id jd x y h => ?_, Pin.none hnp⟩, fun id h => ?_, fun id x h => ?_, Nat.le_refl _⟩
  · unfold phiS at h; split at h <;> cases h
  · unfold phiS at h
    split at h
    · rename_i he
      subst he
      rw [mem_get (by intro p hp; simp [memS] at hp; subst hp; decide) (by decide) (by decide)]
      rfl
    · cases h
  · unfold phiS at h; split at h <;> cases h
  · unfold phiS at h
    split at h
    · omega
    · exact absurd rfl h
  · unfold phiS at h; split at h <;> cases h

/-- a canonical memory stays where nothing of it is touched -/
theorem St.keep {base n : Nat} {l : List (Nat × LB)} {φ : Phi} {w w' : World} (h : St base n l φ w) (hs : w.heap.size ≤ w'.heap.size)
    (hk : ∀ id x, φ id = some (some x) → w'.heap[x.b]? = w.heap[x.b]?) (hp : ∀ b, b < w.heap.size → (∀ id x, φ id = some (some x) → x.b ≠ b) → w'.heap[b]? = w.heap[b]?) : St base n l φ w' := by
  have _s := SymT.tab
  exact
  ⟨⟨fun id x hx => by
      obtain ⟨b, h1, h2⟩ := h.mr.live id x hx
      exact ⟨b, h1, h2.mono (Ext.refl φ) (hk id x hx)⟩, h.mr.dead, h.mr.inj, h.mr.pin.at hp⟩, h.bd, h.from_, Nat.le_trans h.size hs⟩

theorem St.below {base n : Nat} {l : List (Nat × LB)} {φ : Phi} {w w' : World} (h : St base n l φ w) (hb : Below w.heap.size w w') : St base n l φ w' :=
  h.keep hb.size (fun id x hx => by
    obtain ⟨b, _, h2⟩ := h.mr.live id x hx
    exact hb.block _ h2.lt) fun b hlt _ => hb.block b hlt
end Go.Eng
/- Ways through tests on numbers that are not known: rules out of what the tests said; calls whose answers are told by patterns. -/
namespace Go.Eng
open Go.RowKit

/-- what a comparison of numbers says -/
def cmpB (op : BinOp) (a b : Int) : Bool :=
  match op with
  | .eql => decide (a = b)
  | .neq => !decide (a = b)
  | .lss => decide (a < b)
  | .leq => decide (a ≤ b)
  | .gtr => decide (b < a)
  | .geq => decide (b ≤ a)
  | _ => false

def isCmp : BinOp → Bool
  | .eql => true
  | .neq => true
  | .lss => true
  | .leq => true
  | .gtr => true
  | .geq => true
  | _ => false

theorem goodC {val : Nat → Value} {op : BinOp} {x y : Value} {k : IntKind} {a b : Int} {r : Bool} (hop : isCmp op = true) (hx : isSc x = true) (hy : isSc y = true) (dx : den val x = .int k a) (dy : den val y = .int k b)
    (h : cmpB op a b = r) : (SRule.bin op x y (.bool r)).good val := by
  refine good_cmp hx hy dx dy fun t => ?_
  subst h
  cases op <;> first | (cases hop; done) | skip
  all_goals (simp [binOp, Op.intCmp, pureSem, Pure.pure, cmpB]; try rfl)

theorem goodNeg {val : Nat → Value} {i j : Nat} {k : IntKind} {a : Int} (h : val i = .int k a) (h' : val j = .int k (k.wrap (0 - a))) : (SRule.un .neg (sv i) (sv j)).good val := by
  refine ⟨rfl, rfl, ?_⟩
  show pureSem (Op.unary .neg (val i)) = some (val j)
  rw [h, h']
  rfl

variable [SymV] [SymT]

noncomputable def isVal (r : Option (Value × LMem)) (v : Value) : Bool :=
  match r with
  | some (v', _) => veq 7 v' v
  | none => false

/-- a call out of nothing: its answer is as the pattern says -/
theorem val_call {P : Program} {call : CallT} (hcs : CallSound P call) {g : FuncId} {args args' : List Value} {v : Value} (h : isVal (call g args (mem 1 memS)) v = true) (ha : VRL phiS args args') (w : World) (hnp : NoPin := by exact ⟨fun _ => trivial, fun _ h => h⟩) :
    Calls P g ⟨args'⟩ w fun e w' => ∃ r φ', e = .returned r ∧ VR φ' v r ∧ Below w.heap.size w w' := by
  have hst := St.start w hnp
  cases hr : call g args (mem 1 memS) with
  | none => rw [hr] at h; cases h
  | some q =>
    obtain ⟨v', m⟩ := q
    rw [hr] at h
    have := veq_eq 7 _ _ h
    subst this
    have hw : WF (mem 1 memS) := mem_wf (by decide) fun p hp => by simp [memS] at hp; subst hp; exact ⟨by decide, by decide⟩
    refine ((hcs g args _ _ _ hr hw).2 phiS w args' hst.mr hst.bd ha).mono fun e w' ⟨r, φ', he, hsim, hv, _, _⟩ => ⟨r, φ', he, hv, ?_⟩
    exact ⟨hsim.fr.os, hsim.fr.tape, hsim.fr.output, hsim.fr.size, fun b hb => hsim.fr.same b hb fun id x hx he => by have := hst.from_ id x hx; omega⟩

theorem int_call {P : Program} {call : CallT} (hcs : CallSound P call) {g : FuncId} {args args' : List Value} {k : IntKind} {n : Int} (h : isVal (call g args (mem 1 memS)) (.int k n) = true) (ha : VRL phiS args args') (w : World) (hnp : NoPin := by exact ⟨fun _ => trivial, fun _ h => h⟩) :
    Calls P g ⟨args'⟩ w fun e w' => e = .returned (.int k n) ∧ Below w.heap.size w w' := by
  refine (val_call hcs h ha w hnp).mono fun e w' ⟨r, φ', he, hv, hb⟩ => ?_
  cases hv
  exact ⟨he, hb⟩

/-- a primitive for a call that only answers -/
theorem prim_below {P : Program} {g : FuncId} {args' : List Value} {m : LMem} {v r : Value} {φ : Phi} {w : World} (hm : MR φ m.get w) (hb : Bd φ m.next) (hv : VR φ v r)
    (hc : Calls P g ⟨args'⟩ w fun e w' => e = .returned r ∧ Below w.heap.size w w') : Calls P g ⟨args'⟩ w (CallPost m m v φ w) := by
  have _s := SymT.tab
  have _s := SymT.tab
  refine hc.mono fun e w' ⟨he, bel⟩ => ?_
  refine ⟨r, φ, he, ⟨Ext.refl φ, fun id l h => .inl ⟨id, l, h, rfl⟩, fun _ _ h => h, ⟨bel.os, bel.tape, bel.output, bel.size, fun k hk _ => bel.block k hk⟩⟩, hv, ⟨fun id l h => ?_, hm.dead, hm.inj, hm.pin.at fun b hb _ => bel.block b hb⟩, hb⟩
  obtain ⟨b, h1, h2⟩ := hm.live id l h
  exact ⟨b, h1, h2.mono (Ext.refl φ) (bel.block _ h2.lt)⟩

/-- a call that only reads and answers a string that is known by its number: what it makes is forgotten -/
theorem sc_str {P : Program} {call : CallT} (hcs : CallSound P call) {g : FuncId} {args : List Value} {n : Nat} {l : List (Nat × LB)} {m' : LMem} {S : ByteArray} {k : Nat} {kk : FloatKind} {b' : Nat}
    (hok : n ≤ 16384 ∧ ∀ p ∈ l, p.1 < n ∧ ubB p.2 ≤ n) (hrun : call g args (mem n l) = some (.string S, m')) (hget : ∀ p ∈ l, m'.get p.1 = some p.2) (hk : SymV.val k = .string S) :
    SC P g args (mem n l) (.complex kk k b') (mem n l) := by
  have hw : WF (mem n l) := mem_wf hok.1 hok.2
  have hcall := hcs g args _ _ _ hrun hw
  have hroom := hcall.1.2.room
  have hn : n ≤ m'.next := hcall.1.1
  have hl65 : ∀ p ∈ l, p.1 < 65536 := fun p hp => by have := (hok.2 p hp).1; omega
  refine ⟨⟨Nat.le_refl _, hw⟩, fun φ w args' hmr hbd ha => ?_⟩
  refine (hcall.2 φ w args' hmr hbd ha).mono fun e w' ⟨r, φ0, he, hsim, hv0, hm0, hb0⟩ => ?_
  obtain ⟨φ', x1, x2, x3, hm, hb⟩ := killL (n := m'.next) (l := l) hroom hm0 hb0 fun p hp => ⟨LMem.get_lt (hget p hp), hget p hp⟩
  have hget' : ∀ id, id < n → (mem n l).get id = (mem m'.next l).get id := fun id hid => by
    rw [mem_get hl65 hok.1 hid, mem_get hl65 hroom (by omega)]
  have hcut : ∀ id x, cut φ' n id = some x → id < n ∧ φ' id = some x := fun id x h => by
    unfold cut at h
    split at h
    · exact ⟨by assumption, h⟩
    · cases h
  have hN : n < 1152921504606846976 := by have := hok.1; omega
  have hbd' : ∀ id, φ id ≠ none → id < n := fun id h => hbd id h
  refine ⟨r, cut φ' n, he, ⟨fun id h => ?_, fun id x h => hsim.new id x (x3 id x (hcut id _ h).2), fun id hid h0 => ?_, hsim.fr⟩, ?_, ⟨fun id x h => ?_, fun id h => ?_, fun id jd x y h1 h2 => hm.inj id jd x y (hcut id _ h1).2 (hcut jd _ h2).2, hm.pin.sub fun id x h => ⟨id, x, (hcut id _ h).2, rfl⟩⟩, fun id h => ?_⟩
  · rw [cut_at (hbd' id h)]
    exact hsim.ext.trans x1 id h
  · rw [cut_at (show id < n from hid)]
    exact x2 id (hsim.un id hid h0)
  · cases hv0
    exact .sym _ _ _ _ hk.symm
  · obtain ⟨h1, h2⟩ := hcut id _ h
    obtain ⟨b, q1, q2⟩ := hm.live id x h2
    rw [hget' id h1]
    refine ⟨b, q1, q2.cut hN ?_⟩
    rw [mem_get hl65 hroom (by omega)] at q1
    cases hkk : lk l id with
    | none => rw [hkk] at q1; cases q1; exact q2.elim
    | some b' => rw [hkk] at q1; cases q1; exact (hok.2 _ (lk_mem hkk)).2
  · obtain ⟨h1, h2⟩ := hcut id _ h
    rw [hget' id h1]
    exact hm.dead id h2
  · cases hc : cut φ' n id with
    | none => exact absurd hc h
    | some x => exact (hcut id _ hc).1

noncomputable def strRun (r : Option (Value × LMem)) (l : List (Nat × LB)) : Option (List UInt8 × Bool) :=
  match r with
  | some (.string s, m) => some (s.data.toList, holdsAll m l)
  | _ => none

theorem strRun_some {r : Option (Value × LMem)} {l : List (Nat × LB)} {bs : List UInt8} (h : strRun r l = some (bs, true)) : ∃ m, r = some (.string ⟨⟨bs⟩⟩, m) ∧ ∀ p ∈ l, m.get p.1 = some p.2 := by
  unfold strRun at h
  split at h
  · rename_i s m
    simp only [Option.some.injEq, Prod.mk.injEq] at h
    obtain ⟨h1, h2⟩ := h
    refine ⟨m, ?_, holdsAll_at h2⟩
    subst h1
    rfl
  · cases h

/-- a call of which the answer is known -/
noncomputable def ansPrim (f : FuncId) (xs : List Value) (v : Value) : PrimT := fun g => bif Nat.beq g f then some (fun args m => bif veqL (veq 7) args xs then some (v, m) else none) else none

theorem ansPrim_ok {P : Program} {f : FuncId} {xs : List Value} {k : IntKind} {n : Int}
    (h : ∀ (φ : Phi) (args' : List Value) (w : World), VRL φ xs args' → Calls P f ⟨args'⟩ w fun e w' => e = .returned (.int k n) ∧ Below w.heap.size w w') : PrimOK P (ansPrim f xs (.int k n)) := by
  intro g p hp args m v m' hr hw
  unfold ansPrim at hp
  cases hg : Nat.beq g f with
  | false => rw [hg] at hp; cases hp
  | true =>
    rw [hg] at hp
    cases hp
    have := Nat.eq_of_beq_eq_true hg
    subst this
    cases hq : veqL (veq 7) args xs with
    | false => simp only [hq, cond_false] at hr; cases hr
    | true =>
      simp only [hq, cond_true, Option.some.injEq, Prod.mk.injEq] at hr
      obtain ⟨rfl, rfl⟩ := hr
      have := veqL_eq (veq_eq 7) hq
      subst this
      exact ⟨⟨Nat.le_refl _, hw⟩, fun φ w args' hm hb ha => prim_below hm hb (.int k n) (h φ args' w ha)⟩

theorem scal_den {φ : Phi} : ∀ {l ys : List Value}, l.all isScR = true → VRL φ l ys → ys = l.map (den SymV.val)
  | [], ys, _, h => by have _s := SymT.tab; cases h; rfl
  | x :: r, ys, hs, h => by
    simp only [List.all_cons, Bool.and_eq_true] at hs
    cases h with
    | cons _ y _ zs h1 h2 =>
      rw [scal_den hs.2 h2]
      have : y = den SymV.val x := by
        cases h1 <;> first | rfl | assumption | (simp [isScR] at hs; done)
      rw [this]
      rfl

theorem agg_den {φ : Phi} {l args' : List Value} (hs : l.all isScR = true) (h : VRL φ [.agg ⟨l⟩] args') : args' = [.agg ⟨l.map (den SymV.val)⟩] := by
  cases h with
  | cons _ y _ zs h1 h2 =>
    cases h2
    cases h1 with
    | agg _ ys h3 =>
      have := scal_den hs h3
      have : ys = ⟨l.map (den SymV.val)⟩ := Array.ext' this
      rw [this]

theorem goodShr {val : Nat → Value} {i j : Nat} {k : IntKind} {a : Int} (s : Nat) (hs : s ≤ k.bits) (h : val i = .int k a) (h' : val j = .int k (a.fdiv (2 ^ s))) : (SRule.bin .shr (sv i) (.int .u64 (.ofNat s)) (sv j)).good val := by
  have _s := SymT.tab
  refine ⟨numD rfl h, ⟨rfl, _, _, rfl⟩, rfl, fun t => ?_⟩
  show pureSem (binOp .shr t (val i) (.int .u64 (.ofNat s))) = some (val j)
  rw [h, h']
  simp [binOp, Op.shift, pureSem, Pure.pure]
  rw [if_neg (by omega), Nat.min_eq_left hs]
theorem goodConv {val : Nat → Value} {k k' : IntKind} {i : Nat} {a : Int} {r : Value} (h : val i = .int k a) (hr : isSc r = true) (h' : den val r = .int k' (k'.wrap a)) : (SRule.conv k' (sv i) r).good val := by
  have _s := SymT.tab
  exact
  ⟨rfl, hr, k, a, h, h'⟩
end Go.Eng
/- Calls that only read; segments with a run behind them; memories told in two ways. -/
namespace Go.Eng
open Go.RowKit
variable [SymV] [SymT]

/-- a call that only reads: what it makes is forgotten -/
theorem sc_read {P : Program} {call : CallT} (hcs : CallSound P call) {g : FuncId} {args : List Value} {n : Nat} {l : List (Nat × LB)} {m' : LMem} {v : Value}
    (hok : n ≤ 16384 ∧ ∀ p ∈ l, p.1 < n ∧ ubB p.2 ≤ n) (hrun : call g args (mem n l) = some (v, m')) (hget : ∀ p ∈ l, m'.get p.1 = some p.2) (hv : ub v ≤ n) :
    SC P g args (mem n l) v (mem n l) := by
  have hw : WF (mem n l) := mem_wf hok.1 hok.2
  have hcall := hcs g args _ _ _ hrun hw
  have hroom := hcall.1.2.room
  have hn : n ≤ m'.next := hcall.1.1
  have hl65 : ∀ p ∈ l, p.1 < 65536 := fun p hp => by have := (hok.2 p hp).1; omega
  refine ⟨⟨Nat.le_refl _, hw⟩, fun φ w args' hmr hbd ha => ?_⟩
  refine (hcall.2 φ w args' hmr hbd ha).mono fun e w' ⟨r, φ0, he, hsim, hv0, hm0, hb0⟩ => ?_
  obtain ⟨φ', x1, x2, x3, hm, hb⟩ := killL (n := m'.next) (l := l) hroom hm0 hb0 fun p hp => ⟨LMem.get_lt (hget p hp), hget p hp⟩
  have hget' : ∀ id, id < n → (mem n l).get id = (mem m'.next l).get id := fun id hid => by
    rw [mem_get hl65 hok.1 hid, mem_get hl65 hroom (by omega)]
  have hcut : ∀ id x, cut φ' n id = some x → id < n ∧ φ' id = some x := fun id x h => by
    unfold cut at h
    split at h
    · exact ⟨by assumption, h⟩
    · cases h
  have hN : n < 1152921504606846976 := by have := hok.1; omega
  have hbd' : ∀ id, φ id ≠ none → id < n := fun id h => hbd id h
  refine ⟨r, cut φ' n, he, ⟨fun id h => ?_, fun id x h => hsim.new id x (x3 id x (hcut id _ h).2), fun id hid h0 => ?_, hsim.fr⟩, (hv0.mono x1).cut hN 7 hv, ⟨fun id x h => ?_, fun id h => ?_, fun id jd x y h1 h2 => hm.inj id jd x y (hcut id _ h1).2 (hcut jd _ h2).2, hm.pin.sub fun id x h => ⟨id, x, (hcut id _ h).2, rfl⟩⟩, fun id h => ?_⟩
  · rw [cut_at (hbd' id h)]
    exact hsim.ext.trans x1 id h
  · rw [cut_at (show id < n from hid)]
    exact x2 id (hsim.un id hid h0)
  · obtain ⟨h1, h2⟩ := hcut id _ h
    obtain ⟨b, q1, q2⟩ := hm.live id x h2
    rw [hget' id h1]
    refine ⟨b, q1, q2.cut hN ?_⟩
    rw [mem_get hl65 hroom (by omega)] at q1
    cases hkk : lk l id with
    | none => rw [hkk] at q1; cases q1; exact q2.elim
    | some b' => rw [hkk] at q1; cases q1; exact (hok.2 _ (lk_mem hkk)).2
  · obtain ⟨h1, h2⟩ := hcut id _ h
    rw [hget' id h1]
    exact hm.dead id h2
  · cases hc : cut φ' n id with
    | none => exact absurd hc h
    | some x => exact (hcut id _ hc).1

/-- a call's answer and that blocks are as they were -/
noncomputable def readRun (r : Option (Value × LMem)) (v : Value) (l : List (Nat × LB)) : Bool :=
  match r with
  | some (v', m) => veq 7 v' v && holdsAll m l
  | none => false

theorem readRun_some {r : Option (Value × LMem)} {v : Value} {l : List (Nat × LB)} (h : readRun r v l = true) : ∃ m, r = some (v, m) ∧ ∀ p ∈ l, m.get p.1 = some p.2 := by
  have _s := SymT.tab
  unfold readRun at h
  split at h
  · rename_i v' m
    rw [Bool.and_eq_true] at h
    have := veq_eq 7 _ _ h.1
    subst this
    exact ⟨m, rfl, holdsAll_at h.2⟩
  · cases h

/-- segments of one function; where none fits, the function is run -/
noncomputable def segOr (P : Program) (X : ExtT) (g : FuncId) (l : List Seg) : PrimT := fun f => bif Nat.beq f g then some (fun args m => match trySegs l g args m with
  | some r => some r
  | none => callFF P X (fun _ => none) 100000 50 g args m) else none

theorem segOr_ok {P : Program} {X : ExtT} (hP : POK P X) {g : FuncId} {l : List Seg} (hl : ∀ s ∈ l, SegGood P s) : PrimOK P (segOr P X g l) := by
  intro f p hp args m v m' h hw
  unfold segOr at hp
  cases hg : Nat.beq f g with
  | false => rw [hg] at hp; cases hp
  | true =>
    rw [hg] at hp
    cases hp
    have := Nat.eq_of_beq_eq_true hg
    subst this
    have h : (match trySegs l f args m with | some r => some r | none => callFF P X (fun _ => none) 100000 50 f args m) = some (v, m') := h
    split at h
    · rename_i r hr
      cases h
      exact trySegs_ok hl hr hw
    · rw [callFF_eq] at h
      exact call_sound hP (noPrim P) 100000 50 f args m v m' h hw

/-- blocks told in another way, of which the same is so -/
def SwapB (b b' : LB) : Prop := (b = .dead ↔ b' = .dead) ∧ ∀ φ loc w, BR φ b loc w → BR φ b' loc w

theorem MR.swap {φ : Phi} {n : Nat} {l l' : List (Nat × LB)} {w : World} (hn : n ≤ 16384) (h1 : ∀ p ∈ l, p.1 < n) (h2 : ∀ p ∈ l', p.1 < n)
    (hs : ∀ id, (lk l id = none ∧ lk l' id = none) ∨ ∃ b b', lk l id = some b ∧ lk l' id = some b' ∧ SwapB b b') (hb : Bd φ n) (hm : MR φ (mem n l).get w) : MR φ (mem n l').get w := by
  have e1 : ∀ p ∈ l, p.1 < 65536 := fun p hp => by have := h1 p hp; omega
  have e2 : ∀ p ∈ l', p.1 < 65536 := fun p hp => by have := h2 p hp; omega
  refine ⟨fun id x h => ?_, fun id h => ?_, hm.inj, hm.pin⟩
  · have hid := hb id (by rw [h]; simp)
    obtain ⟨b, q1, q2⟩ := hm.live id x h
    rw [mem_get e1 hn hid] at q1
    rcases hs id with ⟨z1, z2⟩ | ⟨c, c', z1, z2, z3⟩
    · rw [z1] at q1; cases q1; exact q2.elim
    · rw [z1] at q1; cases q1
      exact ⟨c', by rw [mem_get e2 hn hid, z2]; rfl, z3.2 φ x w q2⟩
  · have hid := hb id (by rw [h]; simp)
    have q1 := hm.dead id h
    rw [mem_get e1 hn hid] at q1
    rw [mem_get e2 hn hid]
    rcases hs id with ⟨z1, z2⟩ | ⟨c, c', z1, z2, z3⟩
    · rw [z2]; rfl
    · rw [z1] at q1
      have : c = .dead := by simpa using q1
      rw [z2, z3.1.1 this]
      rfl

theorem SwapB.refl (b : LB) : SwapB b b := by
  have _s := SymT.tab
  exact ⟨Iff.rfl, fun _ _ _ h => h⟩

theorem swap_cells {c c' : List Value} (hl : c.length = c'.length) (h : ∀ (φ : Phi) (i : Nat) (v v' y : Value), c[i]? = some v → c'[i]? = some v' → VR φ v y → VR φ v' y) : SwapB (.cells c) (.cells c') := by
  have _s := SymT.tab
  refine ⟨⟨fun h => by (cases h), fun h => by (cases h)⟩, fun φ loc w hb => ?_⟩
  obtain ⟨a, e, h1, h2, h3, h4⟩ := hb
  refine ⟨a, e, h1, h2, by rw [← hl]; exact h3, fun i v' hv' => ?_⟩
  have hi : i < c.length := by rw [hl]; exact (List.getElem?_eq_some_iff.1 hv').1
  obtain ⟨y, q1, q2⟩ := h4 i c[i] (List.getElem?_eq_getElem hi)
  exact ⟨y, q1, h φ i _ v' y (List.getElem?_eq_getElem hi) hv' q2⟩

theorem sc_swap {P : Program} {g : FuncId} {args : List Value} {n : Nat} {l l' : List (Nat × LB)} {v : Value} (hn : n ≤ 16384) (h1 : ∀ p ∈ l, p.1 < n ∧ ubB p.2 ≤ n) (h2 : ∀ p ∈ l', p.1 < n ∧ ubB p.2 ≤ n)
    (hs : ∀ id, (lk l id = none ∧ lk l' id = none) ∨ ∃ b b', lk l id = some b ∧ lk l' id = some b' ∧ SwapB b b')
    (hr : ∀ id, (lk l' id = none ∧ lk l id = none) ∨ ∃ b b', lk l' id = some b ∧ lk l id = some b' ∧ SwapB b b')
    (h : SC P g args (mem n l) v (mem n l)) : SC P g args (mem n l') v (mem n l') := by
  refine ⟨⟨Nat.le_refl _, mem_wf hn h2⟩, fun φ w args' hm hb ha => ?_⟩
  refine (h.2 φ w args' (MR.swap hn (fun p hp => (h2 p hp).1) (fun p hp => (h1 p hp).1) hr hb hm) hb ha).mono fun e w' ⟨r, φ', he, hsim, hv, hm', hb'⟩ => ?_
  exact ⟨r, φ', he, hsim, hv, MR.swap hn (fun p hp => (h1 p hp).1) (fun p hp => (h2 p hp).1) hs hb' hm', hb'⟩
end Go.Eng
/- Calls that only read, wherever their blocks lie. -/
namespace Go.Eng
open Go.RowKit
variable [SymV] [SymT]

theorem canon_key {ρ : List (Nat × Nat)} {n : Nat} {l : List (Nat × LB)} {m : LMem} (h : canonOK ρ n l m = true) : (∀ p ∈ l, p.1 < 65536) ∧ n ≤ 16384 ∧
    ∀ id j, rlk ρ id = some j → ∃ b b2, lk l id = some b ∧ id < n ∧ renB (rlk ρ) b = some b2 ∧ m.get j = some b2 := by
  have _s := SymT.tab
  unfold canonOK at h
  simp only [Bool.and_eq_true, List.all_eq_true] at h
  obtain ⟨⟨⟨h1, h2⟩, h3⟩, h4⟩ := h
  have hn := Nat.le_of_ble_eq_true h1
  have hb : ∀ p ∈ l, p.1 < n ∧ ∃ j b, rlk ρ p.1 = some j ∧ renB (rlk ρ) p.2 = some b ∧ m.get j = some b := by
    intro p hp
    have := h3 p hp
    unfold canonB at this
    simp only [Bool.and_eq_true] at this
    obtain ⟨⟨q1, q2⟩, q3⟩ := this
    refine ⟨blt_lt q1, ?_⟩
    split at q3
    · cases q3
    · rename_i j hj
      split at q3
      · cases q3
      · rename_i b hb
        split at q3
        · cases q3
        · rename_i b' hb'
          have := lbeq_eq q3
          subst this
          exact ⟨j, b, hj, hb, hb'⟩
  refine ⟨fun p hp => by have := (hb p hp).1; omega, hn, fun id j hj => ?_⟩
  obtain ⟨b, hk⟩ := hasId_lk.1 (h4 _ (rlk_mem hj))
  obtain ⟨q1, j', b2, q3, q4, q5⟩ := hb _ (lk_mem hk)
  simp only at q1 q3 q4
  rw [hj] at q3
  cases q3
  exact ⟨b, b2, hk, q1, q4, q5⟩

/-- a call that only reads and answers a number or a string that is not known -/
noncomputable def relocP (g : FuncId) (args : List Value) (n : Nat) (l : List (Nat × LB)) (s : Nat) (ρ : List (Nat × Nat)) : PrimT := fun f => bif Nat.beq f g then some (fun xs m => bif (match renL (renV (rlk ρ) 7) args with
  | some ys => veqL (veq 7) ys xs
  | none => false) && canonOK ρ n l m then some (sv s, m) else none) else none

theorem relocP_ok {P : Program} {g : FuncId} {args : List Value} {n : Nat} {l : List (Nat × LB)} {s : Nat} {ρ : List (Nat × Nat)} (h : SC P g args (mem n l) (sv s) (mem n l)) : PrimOK P (relocP g args n l s ρ) := by
  intro f p hp xs m v0 m' hr hw
  unfold relocP at hp
  cases hg : Nat.beq f g with
  | false => rw [hg] at hp; cases hp
  | true =>
    rw [hg] at hp
    cases hp
    have := Nat.eq_of_beq_eq_true hg
    subst this
    cases hq : ((match renL (renV (rlk ρ) 7) args with | some ys => veqL (veq 7) ys xs | none => false) && canonOK ρ n l m) with
    | false => simp only [hq, cond_false] at hr; cases hr
    | true =>
      simp only [hq, cond_true, Option.some.injEq, Prod.mk.injEq] at hr
      obtain ⟨rfl, rfl⟩ := hr
      rw [Bool.and_eq_true] at hq
      obtain ⟨hq1, hq2⟩ := hq
      refine ⟨⟨Nat.le_refl _, hw⟩, fun φ2 w args' hm hb ha => ?_⟩
      obtain ⟨k1, k2, _⟩ := canon_mr hq2 hm
      obtain ⟨hl65, hn, key⟩ := canon_key hq2
      have ha1 : VRL (canonP ρ φ2) args args' := by
        split at hq1
        · rename_i ys hys
          have := veqL_eq (veq_eq 7) hq1
          subst this
          exact renL_of (renV_of (canonP_agrees ρ φ2) 7) hys ha
        · cases hq1
      refine (h.2 (canonP ρ φ2) w args' k1 k2 ha1).mono fun e w' ⟨r, φ', he, hsim, hv, hm', hb'⟩ => ?_
      have nodead : ∀ i x, canonP ρ φ2 i = some (some x) → φ' i = some (some x) := fun i x hx => by
        rcases hsim.ext i (by rw [hx]; simp) with g | g
        · rw [g, hx]
        · exfalso
          obtain ⟨b, q1, q2⟩ := k1.live i x hx
          have := hm'.dead i g
          rw [q1] at this
          cases this
          exact q2.elim
      have hρ : Agrees (rlk ρ) φ' φ2 := fun id id2 hid => by
        have hc : canonP ρ φ2 id = φ2 id2 := canonP_agrees ρ φ2 _ _ hid
        obtain ⟨b, b2, _, hlt, _, _⟩ := key id id2 hid
        rw [← hc]
        cases hx : canonP ρ φ2 id with
        | none => exact hsim.un id hlt hx
        | some x => cases x with
          | none => rcases hsim.ext id (by rw [hx]; simp) with g | g
                    · rw [g, hx]
                    · exact g
          | some x => exact nodead id x hx
      refine ⟨r, φ2, he, ⟨Ext.refl φ2, fun id x hx => .inl ⟨id, x, hx, rfl⟩, fun _ _ h => h, ⟨hsim.fr.os, hsim.fr.tape, hsim.fr.output, hsim.fr.size, fun b hb hne => hsim.fr.same b hb fun id x hx => ?_⟩⟩, ?_, ⟨fun id x hx => ?_, hm.dead, hm.inj, hm.pin.at fun b hb hne => hsim.fr.same b hb fun i y hy => ?_⟩, hb⟩
      · obtain ⟨j, _, hx⟩ := canonP_some hx
        exact hne j x hx
      · cases hv with
        | sym _ _ _ _ hv => exact .sym _ _ _ _ hv
      · obtain ⟨b0, q1, q2⟩ := hm.live id x hx
        by_cases hex : ∃ i y, canonP ρ φ2 i = some (some y) ∧ y.b = x.b
        · obtain ⟨i, y, hy, hyx⟩ := hex
          obtain ⟨j, hj, hjy⟩ := canonP_some hy
          have := hm.inj j id y x hjy hx hyx
          subst this
          rw [hx] at hjy
          cases hjy
          obtain ⟨b, b2, z1, z2, z3, z4⟩ := key i j hj
          obtain ⟨b', z5, z6⟩ := hm'.live i x (nodead i x hy)
          rw [mem_get hl65 hn z2, z1] at z5
          cases z5
          exact ⟨b2, z4, renB_to hρ z3 z6⟩
        · exact ⟨b0, q1, q2.mono (Ext.refl φ2) (hsim.fr.same _ q2.lt fun i y hy hyx => hex ⟨i, y, hy, hyx⟩)⟩
      · obtain ⟨j, _, hy⟩ := canonP_some hy
        exact hne j y hy
end Go.Eng
/- Loops of a number of rounds that is not known: code run from a canonical memory to another, the temporaries that nobody reads left open. -/
namespace Go.Eng
open Go.RowKit

/-- the symbols of a value have a property -/
def okS (p : Nat → Bool) : Nat → Value → Bool
  | 0, _ => false
  | n + 1, v => match v with
    | .complex _ k _ => p k
    | .func _ xs ys => xs.toList.all (okS p n) && ys.toList.all (okS p n)
    | .iface _ x => okS p n x
    | .agg xs => xs.toList.all (okS p n)
    | .tuple xs => xs.toList.all (okS p n)
    | _ => true

theorem inst_list {S1 S2 : SymV} {φ : Phi} {p : Nat → Bool} {n : Nat} (ih : ∀ x y, okS p n x = true → @VR S1 φ x y → @VR S2 φ x y) : ∀ {xs ys : List Value}, xs.all (okS p n) = true → @VRL S1 φ xs ys → @VRL S2 φ xs ys
  | [], _, _, h => by cases h; exact .nil
  | x :: xs, _, ho, h => by
    simp only [List.all_cons, Bool.and_eq_true] at ho
    cases h with
    | cons _ y _ ys h1 h2 => exact .cons _ _ _ _ (ih _ _ ho.1 h1) (inst_list ih ho.2 h2)

/-- the same under another valuation -/
theorem VR.inst {S1 S2 : SymV} {φ : Phi} {p : Nat → Bool} (hp : ∀ n, p n = true → S1.val n = S2.val n) : ∀ (k : Nat) (x y : Value), okS p k x = true → @VR S1 φ x y → @VR S2 φ x y := by
  intro k
  induction k with
  | zero => intro x y h; simp [okS] at h
  | succ k ih =>
    intro x y ho h
    cases h with
    | bool b => exact .bool b
    | int k n => exact .int k n
    | string s => exact .string s
    | float k n => exact .float k n
    | sym kk n m v hv => exact .sym kk n m y (hv.trans (hp n ho))
    | cnil => exact .cnil
    | pnil => exact .pnil
    | ptr b off l h => exact .ptr b off l h
    | pdead b off sp a h => exact .pdead b off sp a h
    | snil n c => exact .snil n c
    | slice b off sp len cap cap' l h h1 h2 h3 h4 => exact .slice b off sp len cap cap' l h h1 h2 h3 h4
    | sdead b off sp len cap cap' a h h1 h2 h3 => exact .sdead b off sp len cap cap' a h h1 h2 h3
    | szero b off e o l h => exact .szero b off e o l h
    | mnil => exact .mnil
    | map r l h => exact .map r l h
    | mdead r r' h => exact .mdead r r' h
    | func fn xs us ys vs h1 h2 =>
      simp only [okS, Bool.and_eq_true] at ho
      exact .func fn xs us ys vs (inst_list ih ho.1 h1) (inst_list ih ho.2 h2)
    | nilFunc => exact .nilFunc
    | iface t x y h => exact .iface t x y (ih _ _ ho h)
    | nilIface => exact .nilIface
    | agg xs ys h => exact .agg xs ys (inst_list ih ho h)
    | tuple xs ys h => exact .tuple xs ys (inst_list ih ho h)

/-- a value that stands in some relation, whatever the valuation and the places -/
def AnyV (y : Value) : Prop := ∀ (S : SymV) (ψ : Phi), ψ 0 = some none → ∃ v, @VR S ψ v y

mutual
theorem VR.anyV {S1 : SymV} {φ : Phi} : ∀ {x y : Value}, @VR S1 φ x y → AnyV y
  | _, _, .bool b => fun S ψ h => ⟨_, .bool b⟩
  | _, _, .int k n => fun S ψ h => ⟨_, .int k n⟩
  | _, _, .string s => fun S ψ h => ⟨_, .string s⟩
  | _, _, .float k n => fun S ψ h => ⟨_, .float k n⟩
  | _, _, .sym k n m v hv => fun S ψ h => by
    have ho := S1.one n
    rw [← hv] at ho
    cases v with
    | int k n => exact ⟨_, .int k n⟩
    | string s => exact ⟨_, .string s⟩
    | pointer a => cases a with
      | none => exact ⟨_, .pnil⟩
      | some a => exact ⟨.pointer (some ⟨0, 0, none⟩), .pdead 0 0 none a h⟩
    | slice a n c => cases a with
      | none => exact ⟨_, .snil n c⟩
      | some a => exact ⟨.slice (some ⟨0, 0, none⟩) n c, .sdead 0 0 none n c c a h (Nat.le_of_ble_eq_true ho) (Nat.le_refl _) fun _ => rfl⟩
    | _ => cases ho
  | _, _, .cnil => fun S ψ h => ⟨_, .cnil⟩
  | _, _, .pnil => fun S ψ h => ⟨_, .pnil⟩
  | _, _, .ptr b off l hl => fun S ψ h => ⟨.pointer (some ⟨0, 0, none⟩), .pdead 0 0 none _ h⟩
  | _, _, .pdead b off sp a hl => fun S ψ h => ⟨.pointer (some ⟨0, 0, none⟩), .pdead 0 0 none _ h⟩
  | _, _, .snil n c => fun S ψ h => ⟨_, .snil n c⟩
  | _, _, .slice b off sp len cap cap' l hl h1 h2 h3 h4 => fun S ψ h => ⟨.slice (some ⟨0, 0, none⟩) len cap', .sdead 0 0 none len cap' cap' _ h (Nat.le_trans h1 h2) (Nat.le_refl _) fun _ => rfl⟩
  | _, _, .sdead b off sp len cap cap' a hl h1 h2 h3 => fun S ψ h => ⟨.slice (some ⟨0, 0, none⟩) len cap', .sdead 0 0 none len cap' cap' _ h (Nat.le_trans h1 h2) (Nat.le_refl _) fun _ => rfl⟩
  | _, _, .szero b off e o l hl => fun S ψ h => ⟨.slice (some ⟨0, 0, none⟩) 0 0, .sdead 0 0 none 0 0 0 _ h (Nat.le_refl _) (Nat.le_refl _) fun _ => rfl⟩
  | _, _, .mnil => fun S ψ h => ⟨_, .mnil⟩
  | _, _, .map r l hl => fun S ψ h => ⟨.map (some 0), .mdead 0 _ h⟩
  | _, _, .mdead r r' hl => fun S ψ h => ⟨.map (some 0), .mdead 0 _ h⟩
  | _, _, .func fn xs us ys vs h1 h2 => fun S ψ h => by
    obtain ⟨a, ha⟩ := VRL.anyV h1 S ψ h
    obtain ⟨b, hb⟩ := VRL.anyV h2 S ψ h
    exact ⟨_, .func fn ⟨a⟩ ⟨b⟩ ys vs ha hb⟩
  | _, _, .nilFunc => fun S ψ h => ⟨_, .nilFunc⟩
  | _, _, .iface t x y h1 => fun S ψ h => by
    obtain ⟨a, ha⟩ := VR.anyV h1 S ψ h
    exact ⟨_, .iface t a y ha⟩
  | _, _, .nilIface => fun S ψ h => ⟨_, .nilIface⟩
  | _, _, .agg xs ys h1 => fun S ψ h => by
    obtain ⟨a, ha⟩ := VRL.anyV h1 S ψ h
    exact ⟨_, .agg ⟨a⟩ ys ha⟩
  | _, _, .tuple xs ys h1 => fun S ψ h => by
    obtain ⟨a, ha⟩ := VRL.anyV h1 S ψ h
    exact ⟨_, .tuple ⟨a⟩ ys ha⟩
theorem VRL.anyV {S1 : SymV} {φ : Phi} : ∀ {x y : List Value}, @VRL S1 φ x y → ∀ (S : SymV) (ψ : Phi), ψ 0 = some none → ∃ v, @VRL S ψ v y
  | _, _, .nil => fun S ψ h => ⟨[], .nil⟩
  | _, _, .cons x y xs ys h1 h2 => fun S ψ h => by
    obtain ⟨a, ha⟩ := VR.anyV h1 S ψ h
    obtain ⟨b, hb⟩ := VRL.anyV h2 S ψ h
    exact ⟨_, .cons a y b ys ha hb⟩
end

/-- what a memory says under one valuation, it says under another -/
def okSB (p : Nat → Bool) : LB → Bool
  | .cells c => c.all (okS p 7)
  | .ro c => c.all (okS p 7)
  | .map es _ => es.all fun e => okS p 7 e.val
  | .dead => true

theorem BR.inst {S1 S2 : SymV} {p : Nat → Bool} (hp : ∀ n, p n = true → S1.val n = S2.val n) {φ : Phi} {b : LB} {loc : Loc} {w : World} (ho : okSB p b = true) (h : @BR S1 φ b loc w) : @BR S2 φ b loc w := by
  cases b with
  | cells c =>
    obtain ⟨c', e, h1, h2, h3, h4⟩ := h
    refine ⟨c', e, h1, h2, h3, fun i v hv => ?_⟩
    obtain ⟨v', g1, g2⟩ := h4 i v hv
    exact ⟨v', g1, VR.inst hp 7 v v' (List.all_eq_true.1 ho v (List.mem_of_getElem? hv)) g2⟩
  | ro c =>
    obtain ⟨c', e, fz, h1, h2, h3, h4⟩ := h
    refine ⟨c', e, fz, h1, h2, h3, fun i v hv => ?_⟩
    obtain ⟨v', g1, g2⟩ := h4 i v hv
    exact ⟨v', g1, VR.inst hp 7 v v' (List.all_eq_true.1 ho v (List.mem_of_getElem? hv)) g2⟩
  | map es ck =>
    obtain ⟨es', h1, hlen, hat⟩ := h
    refine ⟨es', h1, hlen, fun i e he => ?_⟩
    obtain ⟨e', g1, g2, g3, g4, g5⟩ := hat i e he
    exact ⟨e', g1, g2, g3, g4, VR.inst hp 7 _ _ (List.all_eq_true.1 ho e (List.mem_of_getElem? he)) g5⟩
  | dead => exact h.elim

theorem St.inst {S1 S2 : SymV} {p : Nat → Bool} (hp : ∀ n, p n = true → S1.val n = S2.val n) {base n : Nat} {l : List (Nat × LB)} {φ : Phi} {w : World} (hok : memOK n l = true) (hl : l.all (fun q => okSB p q.2) = true)
    (h : @St S1 base n l φ w) (hpin : @Pin S2 φ w) : @St S2 base n l φ w := by
  unfold memOK at hok
  simp only [Bool.and_eq_true, List.all_eq_true] at hok
  have hn := Nat.le_of_ble_eq_true hok.1
  have hl65 : ∀ q ∈ l, q.1 < 65536 := fun q hq => by have := blt_lt (hok.2 q hq).1; omega
  obtain ⟨⟨hlive, hdead, hinj, _⟩, hbd, hfrom, hsize⟩ := h
  refine ⟨⟨fun id x hx => ?_, hdead, hinj, hpin⟩, hbd, hfrom, hsize⟩
  obtain ⟨b, q1, q2⟩ := hlive id x hx
  refine ⟨b, q1, BR.inst hp ?_ q2⟩
  have hid := hbd id (by rw [hx]; simp)
  rw [mem_get hl65 hn hid] at q1
  cases hk : lk l id with
  | none => rw [hk] at q1; cases q1; rfl
  | some b' => rw [hk] at q1; cases q1; exact List.all_eq_true.1 hl _ (lk_mem hk)
/-- the frame, as far as it matters -/
structure FL [SymV] (live : List (Nat × Value)) (nt : Nat) (φ : Phi) (a : Act) : Prop where
  size : a.tmps.size = nt
  nt : nt ≤ 512
  val : ∀ p ∈ live, VR φ p.2 (a.tmps.getD p.1 undef)
  any : ∀ t, AnyV (a.tmps.getD t undef)

noncomputable def fillF (u : Nat → Value) : List Nat → FT Value → FT Value
  | [], t => t
  | i :: r, t => fillF u r (FT.set t i (u i))
noncomputable def liveF : List (Nat × Value) → FT Value → FT Value
  | [], t => t
  | p :: r, t => liveF r (FT.set t p.1 p.2)
/-- a frame: some temporaries known, the others open -/
noncomputable def mkF (live : List (Nat × Value)) (u : Nat → Value) (nt : Nat) : LF := ⟨liveF live (fillF u (List.range nt) (FT.lf none)), nt⟩

theorem fillF_get (u : Nat → Value) : ∀ (l : List Nat) (t : FT Value), (∀ i ∈ l, i < 512) → ∀ j, j < 512 → FT.get (fillF u l t) j = if j ∈ l then some (u j) else FT.get t j
  | [], t, _, j, _ => by simp [fillF]
  | i :: r, t, h, j, hj => by
    rw [fillF, fillF_get u r _ (fun k hk => h k (by simp [hk])) j hj, FT.get_set t i j (u i) (h i (by simp)) hj]
    by_cases h1 : j ∈ r
    · simp [h1]
    · by_cases h2 : i = j
      · subst h2; simp
      · simp [h1, h2, Ne.symm h2]

theorem liveF_get {R : Nat → Value → Prop} : ∀ (l : List (Nat × Value)) (t : FT Value), (∀ p ∈ l, p.1 < 512 ∧ R p.1 p.2) → (∀ j, j < 512 → ∀ v, FT.get t j = some v → R j v) → (∀ j, j < 512 → FT.get t j ≠ none → FT.get (liveF l t) j ≠ none) ∧ ∀ j, j < 512 → ∀ v, FT.get (liveF l t) j = some v → R j v
  | [], t, _, ht => ⟨fun _ _ h => h, ht⟩
  | p :: r, t, h, ht => by
    have hp := h p (by simp)
    obtain ⟨g1, g2⟩ := liveF_get (R := R) r (FT.set t p.1 p.2) (fun q hq => h q (by simp [hq])) fun j hj v hv => by
      rw [FT.get_set t p.1 j p.2 hp.1 hj] at hv
      by_cases he : p.1 = j
      · rw [if_pos he] at hv; cases hv; rw [← he]; exact hp.2
      · rw [if_neg he] at hv; exact ht j hj v hv
    refine ⟨fun j hj hn => g1 j hj ?_, g2⟩
    rw [FT.get_set t p.1 j p.2 hp.1 hj]
    by_cases he : p.1 = j
    · rw [if_pos he]; simp
    · rw [if_neg he]; exact hn

variable [SymV] [SymT]

theorem mkF_ok {live : List (Nat × Value)} {nt : Nat} {φ : Phi} {a : Act} (h : FL live nt φ a) (hl : ∀ p ∈ live, p.1 < nt) (hφ : φ 0 = some none) : ∃ u, FR φ (mkF live u nt) a := by
  have hu : ∀ t, ∃ v, VR φ v (a.tmps.getD t undef) := fun t => h.any t _ φ hφ
  refine ⟨fun t => Classical.choose (hu t), h.size, ⟨h.nt⟩, fun i => ?_⟩
  have hnt := h.nt
  by_cases hi : i < nt
  · obtain ⟨g1, g2⟩ := liveF_get (R := fun j v => VR φ v (a.tmps.getD j undef)) live (fillF (fun t => Classical.choose (hu t)) (List.range nt) (FT.lf none))
      (fun p hp => ⟨by have := hl p hp; omega, h.val p hp⟩) fun j hj v hv => by
        rw [fillF_get _ _ _ (fun k hk => by have := List.mem_range.1 hk; omega) j hj] at hv
        split at hv
        · cases hv; exact Classical.choose_spec (hu j)
        · rw [FT.get_lf] at hv; cases hv
    have hn := g1 i (by omega) (by
      rw [fillF_get _ _ _ (fun k hk => by have := List.mem_range.1 hk; omega) i (by omega), if_pos (List.mem_range.2 hi)]; simp)
    rw [LF.get_lt (by exact hi)]
    show VR φ ((FT.get (liveF live (fillF (fun t => Classical.choose (hu t)) (List.range nt) (FT.lf none))) i).getD undef) _
    cases hg : FT.get (liveF live (fillF (fun t => Classical.choose (hu t)) (List.range nt) (FT.lf none))) i with
    | none => exact absurd hg hn
    | some v => exact g2 i (by omega) v hg
  · have e1 : (mkF live (fun t => Classical.choose (hu t)) nt).get i = undef := by
      unfold LF.get mkF
      show Bool.rec (motive := fun _ => Value) undef _ (Nat.blt i nt) = undef
      rw [blt_false (by omega)]
    have e2 : a.tmps.getD i undef = undef := by
      rw [Array.getD_eq_getD_getElem?, Array.getElem?_eq_none (by rw [h.size]; omega)]; rfl
    rw [e1, e2]
    exact .undef

/-- code one behind the other, as a list -/
def flat : Code → List Code
  | .seq a b => flat a ++ flat b
  | c => [c]

def wpL (P : Program) (Q : Exit → Act → World → Prop) : List Code → Act → World → Prop
  | [], a, w => Q .normal a w
  | c :: r, a, w => c.wp P (Exit.then (wpL P Q r) Q) a w

theorem then_mono {K K' : Act → World → Prop} {Q Q' : Exit → Act → World → Prop} (hk : ∀ a w, K a w → K' a w) (hq : ∀ e a w, e ≠ .normal → Q e a w → Q' e a w) : ∀ e a w, Exit.then K Q e a w → Exit.then K' Q' e a w := by
  have _s := SymT.tab
  intro e a w h
  cases e <;> first | exact hk a w h | exact hq _ a w (by simp) h

theorem wpL_append {P : Program} {Q : Exit → Act → World → Prop} : ∀ (l r : List Code) (a : Act) (w : World), wpL P (Exit.then (wpL P Q r) Q) l a w → wpL P Q (l ++ r) a w
  | [], _, _, _, h => by have _s := SymT.tab; have _s := SymT.tab; exact h
  | c :: l, r, a, w, h => by
    refine Go.wp_mono (show c.wp P (Exit.then (wpL P (Exit.then (wpL P Q r) Q) l) (Exit.then (wpL P Q r) Q)) a w from h) ?_
    intro e a w he
    cases e <;> first | exact wpL_append l r a w he | exact he

theorem wp_flat {P : Program} : ∀ {c : Code} {Q : Exit → Act → World → Prop} {a : Act} {w : World}, wpL P Q (flat c) a w → c.wp P Q a w := by
  have _s := SymT.tab
  have one : ∀ {c : Code} {Q : Exit → Act → World → Prop} {a : Act} {w : World}, wpL P Q [c] a w → c.wp P Q a w := fun {c Q a w} h => by
    refine Go.wp_mono (show c.wp P (Exit.then (wpL P Q []) Q) a w from h) ?_
    intro e a w he
    cases e <;> exact he
  intro c
  induction c with
  | seq x y ihx ihy =>
    intro Q a w h
    refine wp_seq (ihx ?_)
    have key : ∀ (l r : List Code) (a : Act) (w : World), wpL P Q (l ++ r) a w → wpL P (Exit.then (wpL P Q r) Q) l a w := by
      intro l
      induction l with
      | nil => intro r a w h; exact h
      | cons c l ih =>
        intro r a w h
        refine Go.wp_mono (show c.wp P (Exit.then (wpL P Q (l ++ r)) Q) a w from h) ?_
        intro e a w he
        cases e <;> first | exact ih r a w he | exact he
    have h1 := key (flat x) (flat y) a w h
    have mono : ∀ (l : List Code) {Q1 Q2 : Exit → Act → World → Prop} (a : Act) (w : World), (∀ e a w, Q1 e a w → Q2 e a w) → wpL P Q1 l a w → wpL P Q2 l a w := by
      intro l
      induction l with
      | nil => intro Q1 Q2 a w hq h; exact hq _ _ _ h
      | cons c l ih =>
        intro Q1 Q2 a w hq h
        refine Go.wp_mono (show c.wp P (Exit.then (wpL P Q1 l) Q1) a w from h) ?_
        intro e a w he
        cases e <;> first | exact ih a w hq he | exact hq _ a w he
    refine mono (flat x) a w ?_ h1
    intro e a w he
    cases e <;> first | exact ihy he | exact he
  | _ => intro Q a w h; exact one h

noncomputable def execL (P : Program) (X : ExtT) (call : CallT) (fuel : Nat) : List Code → LF → LMem → Option (LX × LF × LMem)
  | [], f, m => some (.norm, f, m)
  | c :: r, f, m => seqX (execF P X call fuel c f m) (execL P X call fuel r)

theorem execL_ok {P : Program} {X : ExtT} {call : CallT} (hP : POK P X) (hc : CallSound P call) (fuel : Nat) : ∀ (l : List Code) (f f' : LF) (m m' : LMem) (x : LX), execL P X call fuel l f m = some (x, f', m') → LFok f → WF m → (m.next ≤ m'.next ∧ WF m' ∧ LFok f') ∧
    ∀ φ w a, MR φ m.get w → Bd φ m.next → FR φ f a → ∀ Q : Exit → Act → World → Prop, Ends m m' f' φ a w (Q (xit x)) → wpL P Q l a w
  | [], f, f', m, m', x, h, hf, hw => by
    simp only [execL, Option.some.injEq, Prod.mk.injEq] at h
    obtain ⟨rfl, rfl, rfl⟩ := h
    exact ⟨⟨Nat.le_refl _, hw, hf⟩, fun φ w a hm hb hF Q hE => hE φ w a (Sim.refl _ φ w) hF hm hb rfl⟩
  | c :: r, f, f', m, m', x, h, hf, hw => by
    unfold execL at h
    rw [execF_eq] at h
    cases h1 : exec P X call fuel c f m with
    | none => rw [h1] at h; cases h
    | some q =>
      obtain ⟨x1, f1, m1⟩ := q
      rw [h1] at h
      obtain ⟨g1, g2⟩ := (exec_sim hP hc fuel).1 c f f1 m m1 x1 h1 hf hw
      have fin : (x1 ≠ .norm → x = x1 ∧ f' = f1 ∧ m' = m1) → (x1 = .norm → execL P X call fuel r f1 m1 = some (x, f', m')) → (m.next ≤ m'.next ∧ WF m' ∧ LFok f') ∧
          ∀ φ w a, MR φ m.get w → Bd φ m.next → FR φ f a → ∀ Q : Exit → Act → World → Prop, Ends m m' f' φ a w (Q (xit x)) → wpL P Q (c :: r) a w := by
        intro ha hb
        by_cases hx : x1 = .norm
        · obtain ⟨q1, q2⟩ := execL_ok hP hc fuel r f1 f' m1 m' x (hb hx) g1.2.2 g1.2.1
          subst hx
          refine ⟨⟨Nat.le_trans g1.1 q1.1, q1.2⟩, fun φ w a hm hbd hF Q hE => ?_⟩
          refine g2 φ w a hm hbd hF (Exit.then (wpL P Q r) Q) fun φ1 w1 a1 hs1 hf1 hm1 hb1 hd1 => ?_
          exact q2 φ1 w1 a1 hm1 hb1 hf1 Q (hE.step g1.1 hs1 hd1)
        · obtain ⟨rfl, rfl, rfl⟩ := ha hx
          refine ⟨g1, fun φ w a hm hbd hF Q hE => ?_⟩
          refine g2 φ w a hm hbd hF (Exit.then (wpL P Q r) Q) fun φ1 w1 a1 hs1 hf1 hm1 hb1 hd1 => ?_
          have := hE φ1 w1 a1 hs1 hf1 hm1 hb1 hd1
          cases x with
          | norm => exact absurd rfl hx
          | exit id => exact this
          | ret => exact this
      cases x1 with
      | norm => exact fin (fun h => absurd rfl h) fun _ => h
      | exit id =>
        have h : some (LX.exit id, f1, m1) = some (x, f', m') := h
        cases h
        exact fin (fun _ => ⟨rfl, rfl, rfl⟩) fun h => by cases h
      | ret =>
        have h : some (LX.ret, f1, m1) = some (x, f', m') := h
        cases h
        exact fin (fun _ => ⟨rfl, rfl, rfl⟩) fun h => by cases h

def lxeq : LX → LX → Bool
  | .norm, .norm => true
  | .ret, .ret => true
  | .exit i, .exit j => Nat.beq i j
  | _, _ => false
theorem lxeq_eq {x y : LX} (h : lxeq x y = true) : x = y := by
  have _s := SymT.tab
  cases x <;> cases y <;> simp [lxeq] at h ⊢
  exact h

/-- did the code end as is said, in that memory, with these temporaries? -/
noncomputable def runOK (r : Option (LX × LF × LMem)) (lx : LX) (nt : Nat) (ρ : List (Nat × Nat)) (n' : Nat) (l' : List (Nat × LB)) (live' : List (Nat × Value)) : Bool :=
  match r with
  | some (x, f, m) => lxeq x lx && Nat.beq f.nt nt && holdsAll m (keepOf ρ l') && canonOK ρ n' l' (mem m.next (keepOf ρ l')) && live'.all (fun p => match renV (rlk ρ) 7 p.2 with
    | some v => veq 7 v (f.get p.1)
    | none => false)
  | none => false

theorem code_run {P : Program} {X : ExtT} {call : CallT} (hP : POK P X) (hc : CallSound P call) {c : List Code} {fuel n nt n' : Nat} {l l' : List (Nat × LB)} {live live' : List (Nat × Value)} {ρ : List (Nat × Nat)} {lx : LX}
    (hok : memOK n l = true) (h0 : rlk ρ 0 = some 0) (hlv : live.all (fun p => Nat.blt p.1 nt) = true) (hrun : ∀ u, runOK (execL P X call fuel c (mkF live u nt) (mem n l)) lx nt ρ n' l' live' = true)
    {base : Nat} {φ : Phi} {w : World} {a : Act} (hst : St base n l φ w) (hφ : φ 0 = some none) (hf : FL live nt φ a) {Q : Exit → Act → World → Prop}
    (hQ : ∀ ψ w' a', St base n' l' ψ w' → ψ 0 = some none → FL live' nt ψ a' → Below base w w' → a'.defers = a.defers → Q (xit lx) a' w') : wpL P Q c a w := by
  obtain ⟨u, hF⟩ := mkF_ok hf (fun p hp => blt_lt (List.all_eq_true.1 hlv p hp)) hφ
  have h := hrun u
  unfold runOK at h
  split at h
  · rename_i x f m hr
    simp only [Bool.and_eq_true] at h
    obtain ⟨⟨⟨⟨h1, h2⟩, h3⟩, h4⟩, h5⟩ := h
    have h1 := lxeq_eq h1
    subst h1
    have h2 := Nat.eq_of_beq_eq_true h2
    have h3 := holdsAll_at h3
    unfold memOK at hok
    simp only [Bool.and_eq_true, List.all_eq_true] at hok
    have hw : WF (mem n l) := mem_wf (Nat.le_of_ble_eq_true hok.1) fun p hp => ⟨blt_lt (hok.2 p hp).1, Nat.le_of_ble_eq_true (hok.2 p hp).2⟩
    obtain ⟨g1, g2⟩ := execL_ok hP hc fuel c _ f _ m x hr ⟨hf.nt⟩ hw
    refine g2 φ w a hst.mr hst.bd hF Q fun φ1 w1 a1 hsim hf1 hm0 hb0 hd1 => ?_
    obtain ⟨φ', x1, x2, x3, hm, hb⟩ := killL (n := m.next) (l := keepOf ρ l') g1.2.1.room hm0 hb0 fun p hp => ⟨LMem.get_lt (h3 p hp), h3 p hp⟩
    have hext := hsim.ext.trans x1
    obtain ⟨k1, k2, k3⟩ := canon_mr h4 hm
    have hnew : ∀ id x, canonP ρ φ' id = some (some x) → (∃ jd y, φ jd = some (some y) ∧ y.b = x.b) ∨ w.heap.size ≤ x.b := fun id x hx => by
      obtain ⟨j, hj, hx⟩ := canonP_some hx
      exact hsim.new j x (x3 j x hx)
    refine hQ (canonP ρ φ') w1 a1 ⟨k1, k2, fun id x hx => ?_, Nat.le_trans hst.size hsim.fr.size⟩ ?_ ⟨hf1.size.trans h2, hf.nt, fun p hp => ?_, fun t => (hf1.val t).anyV⟩ ?_ hd1
    · rcases hnew id x hx with ⟨jd, y, q1, q2⟩ | q
      · rw [← q2]; exact hst.from_ jd y q1
      · exact Nat.le_trans hst.size q
    · have hcp : canonP ρ φ' 0 = φ' 0 := canonP_agrees ρ φ' _ _ h0
      rw [hcp]
      exact hext.dead hφ
    · have := List.all_eq_true.1 h5 p hp
      split at this
      · rename_i v hv
        have he := veq_eq 7 _ _ this
        subst he
        exact renV_of (canonP_agrees ρ φ') 7 _ _ _ hv ((hf1.val p.1).mono x1)
      · cases this
    · exact ⟨hsim.fr.os, hsim.fr.tape, hsim.fr.output, hsim.fr.size, fun b hb => hsim.fr.same b (Nat.lt_of_lt_of_le hb hst.size) fun id x hx he => by have := hst.from_ id x hx; omega⟩
  · cases h

/-- a loop whose rounds are counted down -/
theorem loop_down {P : Program} {body : Code} {Q : Exit → Act → World → Prop} {I : Nat → Act → World → Prop}
    (hs : ∀ k a w, I (k + 1) a w → wpL P (Exit.then (I k) Q) (flat body) a w)
    (he : ∀ a w, I 0 a w → wpL P (Exit.then (fun _ _ => False) Q) (flat body) a w) :
    ∀ k a w, I k a w → (Code.loop body).wp P Q a w := by
  have _s := SymT.tab
  have key : ∀ k a w, I k a w → Code.rounds P body Q (k + 1) a w := by
    intro k
    induction k with
    | zero =>
      intro a w h
      rw [rounds_succ]
      refine Go.wp_mono (wp_flat (he a w h)) ?_
      intro x a w hx
      cases x <;> first | exact hx.elim | exact hx
    | succ k ih =>
      intro a w h
      rw [rounds_succ]
      refine Go.wp_mono (wp_flat (hs k a w h)) ?_
      intro x a w hx
      cases x <;> first | exact ih a w hx | exact hx
  exact fun k a w h => wp_loop_rounds (k + 1) (key k a w h)

end Go.Eng
/- Code run from one canonical memory to another, told by equations: for memories that hold what a run does not look into. -/
namespace Go.Eng
open Go.RowKit
variable [SymV] [SymT]

/-- what a run leaves: how it ended, some blocks, some temporaries -/
noncomputable def outs (r : Option (LX × LF × LMem)) (is ts : List Nat) : Option (LX × Nat × List (Option LB) × List Value) :=
  match r with
  | some (x, f, m) => some (x, f.nt, is.map m.get, ts.map f.get)
  | none => none

/-- blocks dropped -/
def drp (D : Nat → Prop) [DecidablePred D] (φ : Phi) : Phi := fun j => if D j then (φ j).map (fun _ => none) else φ j

theorem canonE {ρ : List (Nat × Nat)} {n : Nat} {l : List (Nat × LB)} {m : LMem} {φ : Phi} {w : World} (hn : n ≤ 16384) (hd : distN ρ = true) (hl : ∀ p ∈ l, p.1 < n)
    (h : ∀ p ∈ ρ, ∃ b, lk l p.1 = some b ∧ (b = .dead ∨ ∃ b2, renB (rlk ρ) b = some b2 ∧ m.get p.2 = some b2)) (hm : MR φ m.get w) :
    ∃ φ2, Ext φ φ2 ∧ (∀ id, φ id = none → φ2 id = none) ∧ (∀ id x, φ2 id = some (some x) → φ id = some (some x)) ∧ MR (canonP ρ φ2) (mem n l).get w ∧ Bd (canonP ρ φ2) n := by
  classical
  have _s := SymT.tab
  have hl65 : ∀ p ∈ l, p.1 < 65536 := fun p hp => by have := hl p hp; omega
  let D : Nat → Prop := fun j => ∃ id, rlk ρ id = some j ∧ lk l id = some .dead
  have e1 : Ext φ (drp D φ) := fun id hid => by
    unfold drp
    by_cases hD : D id
    · rw [if_pos hD]
      cases hq : φ id with
      | none => exact absurd hq hid
      | some x => exact .inr rfl
    · rw [if_neg hD]; exact .inl rfl
  have e2 : ∀ id, φ id = none → drp D φ id = none := fun id hid => by
    unfold drp; split
    · rw [hid]; rfl
    · exact hid
  have e3 : ∀ id x, drp D φ id = some (some x) → φ id = some (some x) ∧ ¬ D id := fun id x hx => by
    unfold drp at hx
    by_cases hD : D id
    · rw [if_pos hD] at hx
      cases hq : φ id with
      | none => rw [hq] at hx; cases hx
      | some y => rw [hq] at hx; cases hx
    · rw [if_neg hD] at hx; exact ⟨hx, hD⟩
  have key : ∀ id j, rlk ρ id = some j → ∃ b, lk l id = some b ∧ id < n ∧ (b = .dead ∨ ∃ b2, renB (rlk ρ) b = some b2 ∧ m.get j = some b2) := fun id j hj => by
    obtain ⟨b, q1, q2⟩ := h _ (rlk_mem hj)
    exact ⟨b, q1, hl _ (lk_mem q1), q2⟩
  refine ⟨drp D φ, e1, e2, fun id x hx => (e3 id x hx).1, ⟨fun id x hx => ?_, fun id hx => ?_, fun id jd x y hx hy he => ?_, hm.pin.sub fun id x hx => ?_⟩, fun id hx => ?_⟩
  · obtain ⟨j, hj, hx⟩ := canonP_some hx
    obtain ⟨hx, hD⟩ := e3 j x hx
    obtain ⟨b, q1, q2, q3⟩ := key id j hj
    obtain ⟨b0, z1, z2⟩ := hm.live j x hx
    refine ⟨b, by rw [mem_get hl65 hn q2, q1]; rfl, ?_⟩
    rcases q3 with rfl | ⟨b2, q3, q4⟩
    · exact absurd ⟨id, hj, q1⟩ hD
    · rw [q4] at z1
      cases z1
      exact renB_of (canonP_agrees ρ (drp D φ)) q3 (z2.mono e1 rfl)
  · obtain ⟨j, hj, hx⟩ := canonP_some hx
    obtain ⟨b, q1, q2, q3⟩ := key id j hj
    rw [mem_get hl65 hn q2, q1]
    have : b = .dead := by
      rcases q3 with rfl | ⟨b2, q3, q4⟩
      · rfl
      · unfold drp at hx
        by_cases hD : D j
        · obtain ⟨id', k1, k2⟩ := hD
          have := distN_inj hd k1 hj
          subst this
          rw [q1] at k2
          cases k2
          rfl
        · rw [if_neg hD] at hx
          have := hm.dead j hx
          rw [q4] at this
          cases this
          exact renB_dead q3
    rw [this]; rfl
  · obtain ⟨i, hi, hx⟩ := canonP_some hx
    obtain ⟨j, hj, hy⟩ := canonP_some hy
    have := hm.inj i j x y (e3 i x hx).1 (e3 j y hy).1 he
    subst this
    exact distN_inj hd hi hj
  · obtain ⟨j, _, hx⟩ := canonP_some hx
    exact ⟨j, x, (e3 j x hx).1, rfl⟩
  · cases hc : canonP ρ (drp D φ) id with
    | none => exact absurd hc hx
    | some x =>
      obtain ⟨j, hj, _⟩ := canonP_some hc
      obtain ⟨b, _, q2, _⟩ := key id j hj
      exact q2

/-- what a piece of code may have done -/
structure Stp (n : Nat) (ρ : List (Nat × Nat)) (φ ψ : Phi) (w w' : World) : Prop where
  new : ∀ id x, ψ id = some (some x) → (∃ jd y, φ jd = some (some y) ∧ y.b = x.b) ∨ w.heap.size ≤ x.b
  fix : ∀ id, rlk ρ id = some id → id < n → (φ id = none → ψ id = none) ∧ (φ id ≠ none → ψ id = φ id ∨ ψ id = some none)
  fr : Fr φ w w'

theorem map_at {α β : Type} {f : α → β} {l : List α} {r : List β} (h : l.map f = r) {k : Nat} {a : α} {c : β} (h1 : l[k]? = some a) (h2 : r[k]? = some c) : f a = c := by
  have _s := SymT.tab
  subst h
  rw [List.getElem?_map, h1] at h2
  exact Option.some.inj h2

theorem code_runE {P : Program} {X : ExtT} {call : CallT} (hP : POK P X) (hc : CallSound P call) {c : List Code} {fuel n nt n' : Nat} {l l' : List (Nat × LB)} {live live' : List (Nat × Value)} {ρ : List (Nat × Nat)} {lx : LX} {is ts : List Nat} {bs : List (Option LB)} {vs : List Value}
    (hok : n ≤ 16384 ∧ ∀ p ∈ l, p.1 < n ∧ ubB p.2 ≤ n) (h0 : rlk ρ 0 = some 0) (hlv : live.all (fun p => Nat.blt p.1 nt) = true)
    (hrun : ∀ u, outs (execL P X call fuel c (mkF live u nt) (mem n l)) is ts = some (lx, nt, bs, vs))
    (hn : n' ≤ 16384) (hd : distN ρ = true) (hl : ∀ p ∈ l', p.1 < n')
    (hb : ∀ p ∈ ρ, ∃ b, lk l' p.1 = some b ∧ (b = .dead ∨ ∃ (k : Nat) (b2 : LB), renB (rlk ρ) b = some b2 ∧ is[k]? = some p.2 ∧ bs[k]? = some (some b2)))
    (hv : ∀ p ∈ live', ∃ (k : Nat) (v : Value), renV (rlk ρ) 7 p.2 = some v ∧ ts[k]? = some p.1 ∧ vs[k]? = some v)
    {base : Nat} {φ : Phi} {w : World} {a : Act} (hst : St base n l φ w) (hφ : φ 0 = some none) (hf : FL live nt φ a) {Q : Exit → Act → World → Prop}
    (hQ : ∀ ψ w' a', St base n' l' ψ w' → ψ 0 = some none → FL live' nt ψ a' → Below base w w' → a'.defers = a.defers → Stp n ρ φ ψ w w' → Q (xit lx) a' w') : wpL P Q c a w := by
  obtain ⟨u, hF⟩ := mkF_ok hf (fun p hp => blt_lt (List.all_eq_true.1 hlv p hp)) hφ
  have h := hrun u
  unfold outs at h
  split at h
  · rename_i x f m hr
    simp only [Option.some.injEq, Prod.mk.injEq] at h
    obtain ⟨rfl, h2, h3, h4⟩ := h
    have hw : WF (mem n l) := mem_wf hok.1 hok.2
    obtain ⟨g1, g2⟩ := execL_ok hP hc fuel c _ f _ m x hr ⟨hf.nt⟩ hw
    refine g2 φ w a hst.mr hst.bd hF Q fun φ1 w1 a1 hsim hf1 hm0 hb0 hd1 => ?_
    obtain ⟨φ', x1, x2, x3, k1, k2⟩ := canonE hn hd hl (fun p hp => by
      obtain ⟨b, q1, q2⟩ := hb p hp
      refine ⟨b, q1, ?_⟩
      rcases q2 with q2 | ⟨k, b2, q2, q3, q4⟩
      · exact .inl q2
      · exact .inr ⟨b2, q2, map_at h3 q3 q4⟩) hm0
    have hext := hsim.ext.trans x1
    have hnew : ∀ id x, canonP ρ φ' id = some (some x) → (∃ jd y, φ jd = some (some y) ∧ y.b = x.b) ∨ w.heap.size ≤ x.b := fun id x hx => by
      obtain ⟨j, hj, hx⟩ := canonP_some hx
      exact hsim.new j x (x3 j x hx)
    refine hQ (canonP ρ φ') w1 a1 ⟨k1, k2, fun id x hx => ?_, Nat.le_trans hst.size hsim.fr.size⟩ ?_ ⟨hf1.size.trans h2, hf.nt, fun p hp => ?_, fun t => (hf1.val t).anyV⟩ ?_ hd1 ⟨hnew, fun id hid hlt => ?_, hsim.fr⟩
    · rcases hnew id x hx with ⟨jd, y, q1, q2⟩ | q
      · rw [← q2]; exact hst.from_ jd y q1
      · exact Nat.le_trans hst.size q
    · have hcp : canonP ρ φ' 0 = φ' 0 := canonP_agrees ρ φ' _ _ h0
      rw [hcp]
      exact hext.dead hφ
    · obtain ⟨k, v, q1, q2, q3⟩ := hv p hp
      have := map_at h4 q2 q3
      subst this
      exact renV_of (canonP_agrees ρ φ') 7 _ _ _ q1 ((hf1.val p.1).mono x1)
    · exact ⟨hsim.fr.os, hsim.fr.tape, hsim.fr.output, hsim.fr.size, fun b hb => hsim.fr.same b (Nat.lt_of_lt_of_le hb hst.size) fun id x hx he => by have := hst.from_ id x hx; omega⟩
    · have hcp : canonP ρ φ' id = φ' id := canonP_agrees ρ φ' _ _ hid
      rw [hcp]
      exact ⟨fun h0 => x2 id (hsim.un id hlt h0), fun hne => hext id hne⟩
  · cases h

theorem FL.start {φ : Phi} {args args' : List Value} {nt : Nat} (h : VRL φ args args') (h1 : args.length ≤ nt) (h2 : nt ≤ 512) (live : List (Nat × Value)) (hl : ∀ p ∈ live, args[p.1]? = some p.2) :
    FL live nt φ { tmps := (⟨args'⟩ : Array Value) ++ Array.replicate (nt - (⟨args'⟩ : Array Value).size) undef, defers := [] } := by
  have hF := start_frame h h1 h2
  refine ⟨hF.size, h2, fun p hp => ?_, fun t => (hF.val t).anyV⟩
  obtain ⟨y, q1, q2⟩ := VRL.get h (hl p hp)
  have hlt : p.1 < args'.length := (List.getElem?_eq_some_iff.1 q1).1
  have : (((⟨args'⟩ : Array Value) ++ Array.replicate (nt - (⟨args'⟩ : Array Value).size) undef).getD p.1 undef) = y := by
    rw [Array.getD_eq_getD_getElem?, Array.getElem?_append_left (by simpa using hlt)]
    have : (⟨args'⟩ : Array Value)[p.1]? = some y := by simpa using q1
    rw [this]; rfl
  rw [this]
  exact q2

/-- everything given up -/
theorem St.forget {base n : Nat} {l : List (Nat × LB)} {φ : Phi} {w : World} (h : St base n l φ w) : St base 1 memS phiS w := by
  have _s := SymT.tab
  refine ⟨⟨fun id x h => ?_, fun id h => ?_, fun id jd x y h => ?_, ⟨h.mr.pin.1, fun b _ id x hx => ?_⟩⟩, fun id h => ?_, fun id x h => ?_, h.size⟩
  · unfold phiS at h; split at h <;> cases h
  · unfold phiS at h
    split at h
    · rename_i he
      subst he
      rw [mem_get (by intro p hp; simp [memS] at hp; subst hp; decide) (by decide) (by decide)]
      rfl
    · cases h
  · unfold phiS at h; split at h <;> cases h
  · unfold phiS at hx; split at hx <;> cases hx
  · unfold phiS at h
    split at h
    · omega
    · exact absurd rfl h
  · unfold phiS at h; split at h <;> cases h

theorem FL.drop {live : List (Nat × Value)} {nt : Nat} {φ ψ : Phi} {a : Act} (h : FL live nt φ a) : FL [] nt ψ a := by
  have _s := SymT.tab
  exact ⟨h.size, h.nt, fun p hp => (by cases hp), h.any⟩

/-- a function with one result, by its code as a list -/
theorem calls_flat {P : Program} {f : FuncId} {fn : Func} {c : Code} {args : Array Value} {w : World} {R : Ending → World → Prop} {t : Nat} (hf : P.funcs[f]? = some fn) (hb : fn.body = some c) (hr : fn.results = #[.tmp t])
    (h : wpL P (fun x a w' => match x with
      | .normal => a.defers = [] ∧ R (.returned (a.tmps.getD t undef)) w'
      | .ret => a.defers = [] ∧ R (.returned (a.tmps.getD t undef)) w'
      | _ => False) (flat c) { tmps := args ++ Array.replicate (fn.ntmps - args.size) undef, defers := [] } w) : Calls P f args w R := by
  have _s := SymT.tab
  refine calls_of_wp hf hb (Go.wp_mono (wp_flat h) ?_)
  intro e a w' he
  have hres : ∀ W, (results fn a.tmps).run P W = .ok (a.tmps.getD t undef) W := fun W => by
    unfold results
    rw [hr]
    simp
  cases e <;> first | exact he.elim | exact ⟨he.1, _, hres w', he.2⟩

/-- one block of the arguments stays as it is -/
abbrev SymV.pinned (val : Nat → Value) (one : ∀ n, isOneV (val n) = true) (blk : Nat) (c : Array Value) (e : TypeId) (fz : Nat × Nat) (ptr : Nat → Option (List Value))
    (hptr : ∀ n cs, ptr n = some cs → ∃ off, val n = .pointer (some ⟨blk, off, none⟩) ∧ off + cs.length ≤ c.size ∧ ∀ (i : Nat) (v : Value), cs[i]? = some v → isScR v = true ∧ c[off + i]? = some (den val v)) : SymV :=
  { val := val, one := one, own := fun b => b = blk, inv := fun w => w.heap[blk]? = some (.cells c e fz), same := fun _ _ h hw => (h blk rfl).trans hw,
    data := fun w b hw hb => .inl ⟨c, e, fz, by rw [hb]; exact hw⟩, ptr := ptr, ptrOK := fun _ n cs hw hn => let ⟨off, h1, h2, h3⟩ := hptr n cs hn; ⟨blk, off, c, e, fz, h1, hw, h2, h3⟩ }
end Go.Eng
/- A region in the order of its text, run piece by piece: its calls may be taken by contracts that a run does not know. -/
namespace Go.Eng
open Go.RowKit
variable [SymV] [SymT]

theorem seqp_sim {P : Program} {X : ExtT} {call : CallT} (hP : POK P X) (hc : CallSound P call) (ops : Array Oper) {Q : Exit → Act → World → Prop} (j : Nat) :
    ∀ (r : List Oper) (k : Nat) (f f' : LF) (m m' : LMem), r.all okOp = true → (∀ i o, r[i]? = some o → ops[k + i]? = some o) → runSeq P X call ops.toList r f m = some (f', m') → WF m →
      (m.next ≤ m'.next ∧ WF m') ∧ ∀ φ w a, MR φ m.get w → Bd φ m.next → FR φ f a → Ends m m' f' φ a w (fun a w => wpOps P ops Q (List.range' (k + r.length) j) a w) → wpOps P ops Q (List.range' k (r.length + j)) a w := by
  intro r
  induction r with
  | nil =>
    intro k f f' m m' _ _ h hw
    simp only [runSeq, Option.some.injEq, Prod.mk.injEq] at h
    obtain ⟨rfl, rfl⟩ := h
    exact ⟨⟨Nat.le_refl _, hw⟩, fun φ w a hm hb hf hE => by
      have := hE φ w a (Sim.refl _ φ w) hf hm hb rfl
      simpa using this⟩
  | cons o r ih =>
    intro k f f' m m' hok hpre h hw
    simp only [List.all_cons, Bool.and_eq_true] at hok
    have hk : ops[k]? = some o := by simpa using hpre 0 o (by simp)
    have hpre' : ∀ i o', r[i]? = some o' → ops[k + 1 + i]? = some o' := fun i o' hi => by
      have := hpre (i + 1) o' (by simpa using hi)
      rw [show k + 1 + i = k + (i + 1) by omega]; exact this
    unfold runSeq at h
    have hwant : ∀ φ a, FR φ f a → Region.wanted o (yielded ops a.tmps) = lwanted ops.toList o f := fun φ a hf => wanted_sim (fun j w d _ _ => hf.val d) hf.size
    have hlen : (o :: r).length + j = (r.length + j) + 1 := by simp only [List.length_cons]; omega
    have hk1 : k + (o :: r).length = k + 1 + r.length := by simp only [List.length_cons]; omega
    cases hwt : lwanted ops.toList o f with
    | true =>
      simp only [hwt, cond_true] at h
      split at h
      case h_2 => cases h
      rename_i v m1 hop
      split at h
      case h_2 => cases h
      rename_i f1 hput
      obtain ⟨g1, g2⟩ := doOp_sim hP hc hw hop
      obtain ⟨i1, i2⟩ := ih (k + 1) f1 f' m1 m' hok.2 hpre' h g1.2
      refine ⟨⟨Nat.le_trans g1.1 i1.1, i1.2⟩, fun φ w a hm hb hf hE => ?_⟩
      rw [hlen, List.range'_succ]
      simp only [wpOps, hk, hwant φ a hf, hwt, if_true]
      left
      refine g2 φ w a hm hb (ops_ok hf hok.1) _ _ fun φ1 w1 v1 hs hv hm1 hb1 => ?_
      refine i2 φ1 w1 _ hm1 hb1 ((hf.mono hs.ext).put hput hv) fun φ2 w2 a2 hs2 hf2 hm2 hb2 hd2 => ?_
      rw [← hk1]
      exact hE φ2 w2 a2 (hs.trans g1.1 hs2) hf2 hm2 hb2 (by rw [hd2, put_defers])
    | false =>
      simp only [hwt, cond_false] at h
      split at h
      case h_2 => cases h
      rename_i f1 hput
      obtain ⟨i1, i2⟩ := ih (k + 1) f1 f' m m' hok.2 hpre' h hw
      refine ⟨i1, fun φ w a hm hb hf hE => ?_⟩
      rw [hlen, List.range'_succ]
      simp only [wpOps, hk, hwant φ a hf, hwt, Bool.false_eq_true, if_false]
      refine i2 φ w _ hm hb (hf.put hput VR.undef) fun φ2 w2 a2 hs2 hf2 hm2 hb2 hd2 => ?_
      rw [← hk1]
      exact hE φ2 w2 a2 hs2 hf2 hm2 hb2 (by rw [hd2, put_defers])

/-- operations from one canonical memory to another -/
theorem ops_runE {P : Program} {X : ExtT} {call : CallT} (hP : POK P X) (hc : CallSound P call) {ops : Array Oper} {r : List Oper} {k j n nt n' : Nat} {l l' : List (Nat × LB)} {live live' : List (Nat × Value)} {ρ : List (Nat × Nat)} {is ts : List Nat} {bs : List (Option LB)} {vs : List Value}
    (hr : r.all okOp = true) (hpre : ∀ i o, r[i]? = some o → ops[k + i]? = some o)
    (hok : n ≤ 16384 ∧ ∀ p ∈ l, p.1 < n ∧ ubB p.2 ≤ n) (h0 : rlk ρ 0 = some 0) (hlv : live.all (fun p => Nat.blt p.1 nt) = true)
    (hrun : ∀ u, outs ((runSeq P X call ops.toList r (mkF live u nt) (mem n l)).map fun p => (LX.norm, p.1, p.2)) is ts = some (.norm, nt, bs, vs))
    (hn : n' ≤ 16384) (hd : distN ρ = true) (hl : ∀ p ∈ l', p.1 < n')
    (hb : ∀ p ∈ ρ, ∃ b, lk l' p.1 = some b ∧ (b = .dead ∨ ∃ (k : Nat) (b2 : LB), renB (rlk ρ) b = some b2 ∧ is[k]? = some p.2 ∧ bs[k]? = some (some b2)))
    (hv : ∀ p ∈ live', ∃ (k : Nat) (v : Value), renV (rlk ρ) 7 p.2 = some v ∧ ts[k]? = some p.1 ∧ vs[k]? = some v)
    {base : Nat} {φ : Phi} {w : World} {a : Act} (hst : St base n l φ w) (hφ : φ 0 = some none) (hf : FL live nt φ a) {Q : Exit → Act → World → Prop}
    (hQ : ∀ ψ w' a', St base n' l' ψ w' → ψ 0 = some none → FL live' nt ψ a' → Below base w w' → a'.defers = a.defers → Stp n ρ φ ψ w w' → wpOps P ops Q (List.range' (k + r.length) j) a' w') : wpOps P ops Q (List.range' k (r.length + j)) a w := by
  obtain ⟨u, hF⟩ := mkF_ok hf (fun p hp => blt_lt (List.all_eq_true.1 hlv p hp)) hφ
  have h := hrun u
  cases hrr : runSeq P X call ops.toList r (mkF live u nt) (mem n l) with
  | none => rw [hrr] at h; cases h
  | some q =>
    obtain ⟨f, m⟩ := q
    rw [hrr] at h
    have h : some (LX.norm, f.nt, is.map m.get, ts.map f.get) = some (LX.norm, nt, bs, vs) := h
    simp only [Option.some.injEq, Prod.mk.injEq, true_and] at h
    obtain ⟨h2, h3, h4⟩ := h
    have hw : WF (mem n l) := mem_wf hok.1 hok.2
    obtain ⟨g1, g2⟩ := seqp_sim (Q := Q) hP hc ops j r k _ f _ m hr hpre hrr hw
    refine g2 φ w a hst.mr hst.bd hF fun φ1 w1 a1 hsim hf1 hm0 hb0 hd1 => ?_
    obtain ⟨φ', x1, x2, x3, k1, k2⟩ := canonE hn hd hl (fun p hp => by
      obtain ⟨b, q1, q2⟩ := hb p hp
      refine ⟨b, q1, ?_⟩
      rcases q2 with q2 | ⟨k, b2, q2, q3, q4⟩
      · exact .inl q2
      · exact .inr ⟨b2, q2, map_at h3 q3 q4⟩) hm0
    have hext := hsim.ext.trans x1
    have hnew : ∀ id x, canonP ρ φ' id = some (some x) → (∃ jd y, φ jd = some (some y) ∧ y.b = x.b) ∨ w.heap.size ≤ x.b := fun id x hx => by
      obtain ⟨j, hj, hx⟩ := canonP_some hx
      exact hsim.new j x (x3 j x hx)
    refine hQ (canonP ρ φ') w1 a1 ⟨k1, k2, fun id x hx => ?_, Nat.le_trans hst.size hsim.fr.size⟩ ?_ ⟨hf1.size.trans h2, hf.nt, fun p hp => ?_, fun t => (hf1.val t).anyV⟩ ?_ hd1 ⟨hnew, fun id hid hlt => ?_, hsim.fr⟩
    · rcases hnew id x hx with ⟨jd, y, q1, q2⟩ | q
      · rw [← q2]; exact hst.from_ jd y q1
      · exact Nat.le_trans hst.size q
    · have hcp : canonP ρ φ' 0 = φ' 0 := canonP_agrees ρ φ' _ _ h0
      rw [hcp]
      exact hext.dead hφ
    · obtain ⟨k, v, q1, q2, q3⟩ := hv p hp
      have := map_at h4 q2 q3
      subst this
      exact renV_of (canonP_agrees ρ φ') 7 _ _ _ q1 ((hf1.val p.1).mono x1)
    · exact ⟨hsim.fr.os, hsim.fr.tape, hsim.fr.output, hsim.fr.size, fun b hb => hsim.fr.same b (Nat.lt_of_lt_of_le hb hst.size) fun id x hx he => by have := hst.from_ id x hx; omega⟩
    · have hcp : canonP ρ φ' id = φ' id := canonP_agrees ρ φ' _ _ hid
      rw [hcp]
      exact ⟨fun h0 => x2 id (hsim.un id hlt h0), fun hne => hext id hne⟩

/-- a call among the operations, by whatever contract -/
theorem call_opsE {P : Program} {X : ExtT} (hP : POK P X) {ops : Array Oper} {k j n nt : Nat} {l : List (Nat × LB)} {live : List (Nat × Value)} {o : Oper} {g : FuncId} {args : List Value} (hk : ops[k]? = some o) (hoko : okOp o = true)
    (hok : n ≤ 16384 ∧ ∀ p ∈ l, p.1 < n ∧ ubB p.2 ≤ n) (hlv : live.all (fun p => Nat.blt p.1 nt) = true)
    (hwant : ∀ u, lwanted ops.toList o (mkF live u nt) = true) (heop : ∀ u, ∃ m0, eop P X (mkF live u nt).lev o (mem n l) = some (.enter g args, m0))
    {base : Nat} {φ : Phi} {w : World} {a : Act} (hst : St base n l φ w) (hφ : φ 0 = some none) (hf : FL live nt φ a) {Q : Exit → Act → World → Prop}
    (hcall : ∀ args', VRL φ args args' → Calls P g ⟨args'⟩ w fun e w' => ∃ v, e = .returned v ∧ wpOps P ops Q (List.range' (k + 1) j) (a.put o.dst v) w') : wpOps P ops Q (List.range' k (j + 1)) a w := by
  obtain ⟨u, hF⟩ := mkF_ok hf (fun p hp => blt_lt (List.all_eq_true.1 hlv p hp)) hφ
  have hw : WF (mem n l) := mem_wf hok.1 hok.2
  obtain ⟨m0, he⟩ := heop u
  obtain ⟨_, g2⟩ := esim hP hw he
  obtain ⟨_, args', hr, hv⟩ := g2 φ w a.eval hst.mr hst.bd (ops_ok hF hoko)
  have hwant' : Region.wanted o (yielded ops a.tmps) = true := (wanted_sim (fun j w d _ _ => hF.val d) hF.size).trans (hwant u)
  rw [List.range'_succ]
  simp only [wpOps, hk, hwant', if_true]
  left
  unfold Oper.wp
  rw [hr]
  refine Calls.mono (hcall args'.toList hv) ?_
  rintro e w' ⟨v, rfl, h⟩
  exact h

theorem FL.put {live : List (Nat × Value)} {nt : Nat} {φ : Phi} {a : Act} {d : Nat} {v v' : Value} (h : FL live nt φ a) (hd : d < nt) (hv : VR φ v v') (hl : ∀ p ∈ live, p.1 ≠ d) : FL ((d, v) :: live) nt φ (a.put (some d) v') := by
  have hget : ∀ t, (a.put (some d) v').tmps.getD t undef = if t = d then v' else a.tmps.getD t undef := fun t => put_get (by rw [h.size]; exact hd) t
  refine ⟨?_, h.nt, fun p hp => ?_, fun t => ?_⟩
  · have : (a.put (some d) v').tmps.size = a.tmps.size := by simp [Act.put]
    rw [this]; exact h.size
  · rw [hget]
    rcases List.mem_cons.1 hp with rfl | hp
    · rw [if_pos rfl]; exact hv
    · rw [if_neg (hl p hp)]; exact h.val p hp
  · rw [hget]
    split
    · exact hv.anyV
    · exact h.any t

theorem FL.mono {live : List (Nat × Value)} {nt : Nat} {φ ψ : Phi} {a : Act} (h : FL live nt φ a) (he : Ext φ ψ) : FL live nt ψ a := by
  have _s := SymT.tab
  exact ⟨h.size, h.nt, fun p hp => (h.val p hp).mono he, h.any⟩
end Go.Eng
