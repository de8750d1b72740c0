/- The engine: a deterministic run of the model's code on a logical memory, proved sound against 'Calls' (part 5). No condition. -/
import Derived.Test.YtbmbakmhnimkfaaGreatEngX4
import Derived.Below
import Derived.Shelf.SlIterI.Nil
import Derived.Shelf.SortM.Plain
import Derived.Shelf.SortM.SortNone
set_option linter.unusedSimpArgs false
set_option linter.unusedVariables false
/- What trees say, step by step; contracts out of functions by cut points. -/
namespace Go.Eng
open Go.RowKit

theorem CFn.run_bL {P : Program} {X : ExtT} {pr : PrT} {cs : List (Ctr P)} {F : CFn} (hok : ∀ u, F.okU cs X pr u = true) : ∀ (k i : Nat) (env : Env) (rs : List Value × List Value), One env → F.run cs k i env = some rs → bL F.post rs.1 rs.2 = true := by
  intro k
  induction k with
  | zero => intro i env rs _ h; cases h
  | succ k ih =>
    intro i env rs one hrun
    simp only [CFn.run] at hrun
    split at hrun
    · cases hrun
    rename_i c hci
    have h := hok (fun _ => undef)
    unfold CFn.okU at h
    split at h
    case h_2 => cases h
    rename_i fn hfn
    split at h
    case h_2 => cases h
    rename_i body hbody
    have hc := List.all_eq_true.1 h c (List.mem_of_getElem? hci)
    rw [Bool.and_eq_true] at hc
    cases hev : ev cs c.T c.ns c.nl env with
    | none => rw [hev] at hrun; cases hrun
    | some q =>
    obtain ⟨l, env'⟩ := q
    rw [hev] at hrun
    obtain ⟨ks', hr', one', hg', hag⟩ := chk_ev c.T ⟨c.ns, c.nl, [], [], [], []⟩ env one (goodNil P c.ns c.nl env) hc.2 l env' hev
    have hlf := hr' _ hc.2
    have hall : ∀ {a : Sub}, a.ss.all isScP = true → (a.ss.map (den env'.s)).all isOneV = true := by
      intro a ha
      rw [List.all_eq_true]
      intro x hx
      obtain ⟨y, hy, rfl⟩ := List.mem_map.1 hx
      have := List.all_eq_true.1 ha y hy
      cases y <;> first | rfl | exact one' _ | cases this
    have hval : ∀ {a0 : Sub} {D : SymD} {v : Value} {m : LMem}, lfVal F D a0 v m = true → bL F.post (a0.ss.map (den env'.s)) (a0.ls.map fun y => denX env'.s env'.l y.1) = true := by
      intro a0 D v m h
      unfold lfVal memM at h
      simp only [Bool.and_eq_true] at h
      obtain ⟨n1, n2⟩ := cntA_eq h.1.1.1
      unfold bL
      simp only [List.length_map, n1, n2, Nat.beq_refl, Bool.true_and]
      exact hall h.1.2.1.2
    cases l with
    | ret a0 =>
      simp only [Option.some.injEq] at hrun
      subst hrun
      unfold leafOK at hlf
      split at hlf
      · unfold lfEnd at hlf
        simp only at hlf
        split at hlf
        case h_2 => cases hlf
        simp only [Bool.and_eq_true] at hlf
        obtain ⟨⟨⟨⟨e1, e2⟩, e3⟩, e4⟩, e5⟩ := hlf
        obtain ⟨n1, n2⟩ := cntA_eq e2
        unfold memM at e4
        simp only [Bool.and_eq_true] at e4
        unfold bL
        simp only [List.length_map, n1, n2, Nat.beq_refl, Bool.true_and]
        exact hall e4.1.2
      · simp only at hlf
        split at hlf
        case h_2 => cases hlf
        exact hval hlf
      · simp only at hlf
        split at hlf
        case h_2 => cases hlf
        split at hlf
        case h_2 => cases hlf
        exact hval hlf
    | go j a0 =>
      have hlf : lfEnd P F fn.ntmps fn.results.toList ks'.D (.go j a0) (lfRun P X pr F fn.ntmps body c (fun _ => undef) ks') = true := by
        unfold leafOK at hlf
        split at hlf
        · exact hlf
        · exact hlf
        · cases hlf
      unfold lfEnd at hlf
      simp only at hlf
      split at hlf
      case h_2 => cases hlf
      split at hlf
      case h_2 => cases hlf
      simp only [Bool.and_eq_true] at hlf
      obtain ⟨⟨⟨⟨⟨e1, e2⟩, e3⟩, e4⟩, e5⟩, e6⟩ := hlf
      unfold memM at e4
      simp only [Bool.and_eq_true] at e4
      exact ih j _ rs (envA_one one' e4.1.2) hrun

/-- a function's contract, as its ways say -/
def CFn.ctr0 {P : Program} {X : ExtT} {pr : PrT} (hP : POK P X) (hpr : PrOK P pr) (cs : List (Ctr P)) (F : CFn) (hwf : (patOK F.pre.mem && patOK F.post.mem && Nat.ble F.pre.mem.length F.post.mem.length && F.post.okR true) = true) (hok : ∀ u, F.okU cs X pr u = true) (hfb : F.firstB P = true) (hfst : F.first) (hmd : F.mode = 0 ∨ F.mode = 1 ∨ F.mode = 2) : Ctr P :=
  CFn.ctr hP hpr cs F hwf hok hfb hfst hmd false (fun ss ls => F.F cs ss ls) fun ss ls ss' ls' hb h => ⟨h, by
    unfold bL at hb
    simp only [Bool.and_eq_true] at hb
    exact CFn.run_bL hok manyK 0 ⟨nthV ss (.int .i64 0), nthV ls (.slice none 0 0)⟩ (ss', ls') (symL ss ls hb.2).one h, fun h => by cases h⟩

/-- a contract told in other words -/
def Ctr.as {P : Program} (c : Ctr P) (flat : Bool) (G : List Value → List Value → Option (List Value × List Value)) (h : ∀ ss ls rs, G ss ls = some rs → c.F ss ls = some rs) (hf : ∀ ss ls ss' ls', G ss ls = some (ss', ls') → flat = true → ls'.all flatV = true) : Ctr P :=
  { g := c.g, pre := c.pre, post := c.post, flat := flat, pan := c.pan, F := G, wf := c.wf, ok := fun ss ls ss' ls' hb hg => ⟨(c.ok ss ls ss' ls' hb (h ss ls _ hg)).1, hf ss ls ss' ls' hg, (c.ok ss ls ss' ls' hb (h ss ls _ hg)).2.2⟩ }

/-- what is flat -/
def flatR (r : Option (List Value × List Value)) : Option (List Value × List Value) := match r with
  | some (ss, ls) => bif ls.all flatV then some (ss, ls) else none
  | none => none
theorem flatR_some {r : Option (List Value × List Value)} {q : List Value × List Value} (h : flatR r = some q) : r = some q ∧ q.2.all flatV = true := by
  cases r with
  | none => cases h
  | some p =>
    have h' : (bif p.2.all flatV then some (p.1, p.2) else none) = some q := h
    cases hp : p.2.all flatV with
    | false => rw [hp] at h'; cases h'
    | true => rw [hp] at h'; cases h'; exact ⟨rfl, hp⟩
/-- a contract of which only flat answers are told -/
def Ctr.flatC {P : Program} (c : Ctr P) : Ctr P :=
  c.as true (fun ss ls => flatR (c.F ss ls)) (fun _ _ _ h => (flatR_some h).1) (fun _ _ _ _ h _ => (flatR_some h).2)

/-- what the tree says, handed on -/
def evK {P : Program} {α β : Type} (cs : List (Ctr P)) (K : α → Env → Option β) : Tr α → Nat → Nat → Env → Option β
  | .lf a, _, _, env => K a env
  | .x, _, _, _ => none
  | .d q xs t, n, m, env => match sev q (xs.map (den env.s)) with
    | some v => evK cs K t (Nat.succ n) m ⟨upd env.s n v, env.l⟩
    | none => none
  | .t q xs a b, n, m, env => match sev q (xs.map (den env.s)) with
    | some (.bool x) => bif x then evK cs K a n m env else evK cs K b n m env
    | _ => none
  | .e q xs t, n, m, env => match lsev q (xs.map (denX env.s env.l)) with
    | some v => bif lsc q then evK cs K t (Nat.succ n) m ⟨upd env.s n v, env.l⟩ else evK cs K t n (Nat.succ m) ⟨env.s, upd env.l m v⟩
    | none => none
  | .u q xs a b, n, m, env => match lsev q (xs.map (denX env.s env.l)) with
    | some (.bool x) => bif x then evK cs K a n m env else evK cs K b n m env
    | _ => none
  | .l p ks t, n, m, env => match env.l p with
    | .iface o (.agg ds) => match bindK ks (ds.toList.drop o) with
      | some (ss, ls) => evK cs K t (Nat.add n (cntS ks)) (Nat.add m (cntL ks)) ⟨updL env.s n ss, updL env.l m ls⟩
      | none => none
    | _ => none
  | .c i a t, n, m, env => match cs[i]? with
    | some c => match c.F (a.ss.map (den env.s)) (a.ls.map fun y => denX env.s env.l y.1) with
      | some (ss, ls) => evK cs K t (Nat.add n c.post.ns) (Nat.add m c.post.nl) ⟨updL env.s n ss, updL env.l m ls⟩
      | none => none
    | none => none
  | .q i j a t1 t2, n, m, env => match cs[i]?, cs[j]? with
    | some c, some c' => match c.F (a.ss.map (den env.s)) (a.ls.map fun y => denX env.s env.l y.1) with
      | some (ss, ls) => evK cs K t1 (Nat.add n c.post.ns) (Nat.add m c.post.nl) ⟨updL env.s n ss, updL env.l m ls⟩
      | none => match c'.F (a.ss.map (den env.s)) (a.ls.map fun y => denX env.s env.l y.1) with
        | some (ss, ls) => evK cs K t2 (Nat.add n c'.post.ns) (Nat.add m c'.post.nl) ⟨updL env.s n ss, updL env.l m ls⟩
        | none => none
    | _, _ => none
  | .o i a t1 t2, n, m, env => match cs[i]? with
    | some c => match c.F (a.ss.map (den env.s)) (a.ls.map fun y => denX env.s env.l y.1) with
      | some (ss, ls) => evK cs K t1 (Nat.add n c.post.ns) (Nat.add m c.post.nl) ⟨updL env.s n ss, updL env.l m ls⟩
      | none => evK cs K t2 n m env
    | none => none

section
variable {P : Program} {α β : Type} {cs : List (Ctr P)} {K : α → Env → Option β}

theorem evK_eq : ∀ (T : Tr α) (n m : Nat) (env : Env), evK cs K T n m env = (match ev cs T n m env with
    | some (a, e) => K a e
    | none => none) := by
  intro T
  induction T with
  | lf a => intro n m env; rfl
  | x => intro n m env; rfl
  | d q xs t ih =>
    intro n m env
    simp only [evK, ev]
    cases sev q (xs.map (den env.s)) with
    | none => rfl
    | some v => exact ih _ _ _
  | t q xs a b iha ihb =>
    intro n m env
    simp only [evK, ev]
    cases sev q (xs.map (den env.s)) with
    | none => rfl
    | some v =>
      cases v <;> try rfl
      rename_i x
      cases x with
      | true => exact iha _ _ _
      | false => exact ihb _ _ _
  | e q xs t ih =>
    intro n m env
    simp only [evK, ev]
    cases lsev q (xs.map (denX env.s env.l)) with
    | none => rfl
    | some v =>
      cases lsc q with
      | true => exact ih _ _ _
      | false => exact ih _ _ _
  | u q xs a b iha ihb =>
    intro n m env
    simp only [evK, ev]
    cases lsev q (xs.map (denX env.s env.l)) with
    | none => rfl
    | some v =>
      cases v <;> try rfl
      rename_i x
      cases x with
      | true => exact iha _ _ _
      | false => exact ihb _ _ _
  | l p ks t ih =>
    intro n m env
    simp only [evK, ev]
    cases env.l p <;> try rfl
    rename_i o ds
    cases ds <;> try rfl
    rename_i ds
    simp only
    cases bindK ks (ds.toList.drop o) with
    | none => rfl
    | some q => exact ih _ _ _
  | c i a t ih =>
    intro n m env
    simp only [evK, ev]
    cases cs[i]? with
    | none => rfl
    | some c =>
      simp only
      cases c.F (a.ss.map (den env.s)) (a.ls.map fun y => denX env.s env.l y.1) with
      | none => rfl
      | some q => exact ih _ _ _
  | q i j a t1 t2 ih1 ih2 =>
    intro n m env
    simp only [evK, ev]
    cases cs[i]? with
    | none => rfl
    | some c =>
      cases cs[j]? with
      | none => rfl
      | some c' =>
        simp only
        cases c.F (a.ss.map (den env.s)) (a.ls.map fun y => denX env.s env.l y.1) with
        | some q => exact ih1 _ _ _
        | none =>
          simp only
          cases c'.F (a.ss.map (den env.s)) (a.ls.map fun y => denX env.s env.l y.1) with
          | some q => exact ih2 _ _ _
          | none => rfl
  | o i a t1 t2 ih1 ih2 =>
    intro n m env
    simp only [evK, ev]
    cases cs[i]? with
    | none => rfl
    | some c =>
      simp only
      cases c.F (a.ss.map (den env.s)) (a.ls.map fun y => denX env.s env.l y.1) with
      | some q => exact ih1 _ _ _
      | none => exact ih2 _ _ _

theorem evK_t {q : SOp} {xs : List Value} {a b : Tr α} {n m : Nat} {env : Env} (c : Bool) (h : sev q (xs.map (den env.s)) = some (.bool c)) : evK cs K (.t q xs a b) n m env = bif c then evK cs K a n m env else evK cs K b n m env := by
  simp only [evK, h]
theorem evK_d {q : SOp} {xs : List Value} {a : Tr α} {n m : Nat} {env : Env} (v : Value) (h : sev q (xs.map (den env.s)) = some v) : evK cs K (.d q xs a) n m env = evK cs K a (Nat.succ n) m ⟨upd env.s n v, env.l⟩ := by
  simp only [evK, h]
theorem evK_u {q : LOp} {xs : List Value} {a b : Tr α} {n m : Nat} {env : Env} (c : Bool) (h : lsev q (xs.map (denX env.s env.l)) = some (.bool c)) : evK cs K (.u q xs a b) n m env = bif c then evK cs K a n m env else evK cs K b n m env := by
  simp only [evK, h]
theorem evK_e {q : LOp} {xs : List Value} {a : Tr α} {n m : Nat} {env : Env} (v : Value) (h : lsev q (xs.map (denX env.s env.l)) = some v) (hq : lsc q = false) : evK cs K (.e q xs a) n m env = evK cs K a n (Nat.succ m) ⟨env.s, upd env.l m v⟩ := by
  simp only [evK, h, hq, cond_false]
theorem evK_es {q : LOp} {xs : List Value} {a : Tr α} {n m : Nat} {env : Env} (v : Value) (h : lsev q (xs.map (denX env.s env.l)) = some v) (hq : lsc q = true) : evK cs K (.e q xs a) n m env = evK cs K a (Nat.succ n) m ⟨upd env.s n v, env.l⟩ := by
  simp only [evK, h, hq, cond_true]
theorem evK_l {p : Nat} {ks : List Bool} {a : Tr α} {n m : Nat} {env : Env} {o : Nat} (ds : List Value) (ss ls : List Value) (hp : env.l p = .iface o (.agg ⟨ds⟩)) (h : bindK ks (ds.drop o) = some (ss, ls)) : evK cs K (.l p ks a) n m env = evK cs K a (Nat.add n (cntS ks)) (Nat.add m (cntL ks)) ⟨updL env.s n ss, updL env.l m ls⟩ := by
  simp only [evK, hp, h]
theorem evK_c {i : Nat} {c : Ctr P} {s : Sub} {a : Tr α} {n m : Nat} {env : Env} (ss ls : List Value) (hc : cs[i]? = some c) (h : c.F (s.ss.map (den env.s)) (s.ls.map fun y => denX env.s env.l y.1) = some (ss, ls)) : evK cs K (.c i s a) n m env = evK cs K a (Nat.add n c.post.ns) (Nat.add m c.post.nl) ⟨updL env.s n ss, updL env.l m ls⟩ := by
  simp only [evK, hc, h]
theorem evK_o1 {i : Nat} {c : Ctr P} {s : Sub} {a b : Tr α} {n m : Nat} {env : Env} (ss ls : List Value) (hc : cs[i]? = some c) (h : c.F (s.ss.map (den env.s)) (s.ls.map fun y => denX env.s env.l y.1) = some (ss, ls)) : evK cs K (.o i s a b) n m env = evK cs K a (Nat.add n c.post.ns) (Nat.add m c.post.nl) ⟨updL env.s n ss, updL env.l m ls⟩ := by
  simp only [evK, hc, h]
theorem evK_o2 {i : Nat} {c : Ctr P} {s : Sub} {a b : Tr α} {n m : Nat} {env : Env} (hc : cs[i]? = some c) (h : c.F (s.ss.map (den env.s)) (s.ls.map fun y => denX env.s env.l y.1) = none) : evK cs K (.o i s a b) n m env = evK cs K b n m env := by
  simp only [evK, hc, h]
theorem evK_q1 {i j : Nat} {c c' : Ctr P} {s : Sub} {a b : Tr α} {n m : Nat} {env : Env} (ss ls : List Value) (hc : cs[i]? = some c) (hc' : cs[j]? = some c') (h : c.F (s.ss.map (den env.s)) (s.ls.map fun y => denX env.s env.l y.1) = some (ss, ls)) : evK cs K (.q i j s a b) n m env = evK cs K a (Nat.add n c.post.ns) (Nat.add m c.post.nl) ⟨updL env.s n ss, updL env.l m ls⟩ := by
  simp only [evK, hc, hc', h]
theorem evK_q2 {i j : Nat} {c c' : Ctr P} {s : Sub} {a b : Tr α} {n m : Nat} {env : Env} (ss ls : List Value) (hc : cs[i]? = some c) (hc' : cs[j]? = some c') (h0 : c.F (s.ss.map (den env.s)) (s.ls.map fun y => denX env.s env.l y.1) = none) (h : c'.F (s.ss.map (den env.s)) (s.ls.map fun y => denX env.s env.l y.1) = some (ss, ls)) : evK cs K (.q i j s a b) n m env = evK cs K b (Nat.add n c'.post.ns) (Nat.add m c'.post.nl) ⟨updL env.s n ss, updL env.l m ls⟩ := by
  simp only [evK, hc, hc', h0, h]
end

def ag (l : List Value) : Value := .agg ⟨l⟩

/-- where a way of a function ends -/
def CFn.K {P : Program} (cs : List (Ctr P)) (F : CFn) (k : Nat) (l : Lf) (env : Env) : Option (List Value × List Value) :=
  match l with
  | .ret a => some (a.ss.map (den env.s), a.ls.map fun y => denX env.s env.l y.1)
  | .go j a => F.run cs k j (envA a env)

theorem CFn.step {P : Program} {cs : List (Ctr P)} {F : CFn} {k i : Nat} {env : Env} (c : Cut) (hc : F.cuts[i]? = some c) : F.run cs (k + 1) i env = evK cs (F.K cs k) c.T c.ns c.nl env := by
  simp only [CFn.run, hc]
  rw [evK_eq]
  cases ev cs c.T c.ns c.nl env with
  | none => rfl
  | some q =>
    obtain ⟨l, e⟩ := q
    cases l <;> rfl

/-- the valuation that lists tell -/
def envL (ss ls : List Value) : Env := ⟨nthV ss (.int .i64 0), nthV ls (.slice none 0 0)⟩

/-- a function, from its first cut point on -/
theorem CFn.begin {P : Program} {cs : List (Ctr P)} {F : CFn} {ss ls : List Value} {rs : List Value × List Value} (k : Nat) (hk : k ≤ manyK) (h : F.run cs k 0 (envL ss ls) = some rs) : F.F cs ss ls = some rs :=
  CFn.run_mono hk h
/-- a function without loops -/
theorem CFn.flat {P : Program} {cs : List (Ctr P)} {F : CFn} {ss ls : List Value} {rs : List Value × List Value} (c : Cut) (hc : F.cuts[0]? = some c) (h : evK cs (F.K cs 0) c.T c.ns c.nl (envL ss ls) = some rs) : F.F cs ss ls = some rs :=
  CFn.begin 1 (by decide) ((CFn.step c hc).trans h)
end Go.Eng
/- A contract used at whatever world: what was there stays as it is. -/
namespace Go.Eng
open Go.RowKit

/-- all cells that are there stay as they are -/
def phiW (W : World) : Phi := ⟨fun id => match id with
  | 0 => some none
  | _ => none, fun b => match W.heap[b]? with
  | some (.cells c e m) => some (.cells c e m)
  | _ => none, fun _ => false⟩

theorem phiW_fz {W : World} {b : Nat} {c : Array Value} {e : TypeId} {m : Nat × Nat} (h : W.heap[b]? = some (.cells c e m)) : (phiW W).fz b = some (.cells c e m) := by
  unfold phiW
  simp only [h]

theorem phiW_live {W : World} {id : Nat} {l : Loc} (h : phiW W id = some (some l)) : False := by
  cases id with
  | zero => cases h
  | succ id => cases h

theorem phiW_mr {S : SymV} {W : World} : @MR S (phiW W) (patM []).get W := by
  refine @MR.mk S _ _ _ (fun id l h => (phiW_live h).elim) (fun id hd _ => ?_) (fun id _ hn => by cases hn) (fun id jd l l' h _ _ => (phiW_live h).elim) ⟨fun b o hb => ?_, fun b o hb id l hl => (phiW_live hl).elim⟩
  · cases id with
    | zero => rw [patM_get (by decide) (by decide)]
    | succ id => cases hd
  · have hb : (match W.heap[b]? with
      | some (.cells c e m) => some (Obj.cells c e m)
      | _ => none) = some o := hb
    split at hb
    · rename_i c e m hc
      cases hb
      exact ⟨hc, c, e, m, rfl⟩
    · cases hb

theorem phiW_bd {W : World} : Bd (phiW W) (nC []) := by
  intro id h
  cases id with
  | zero => decide
  | succ id => exact absurd rfl h

/-- a call at whatever world -/
theorem Ctr.enter {P : Program} (c : Ctr P) (hpan : c.pan = false) (hm : c.pre.mem = []) {ss ls ss' ls' : List Value} (hb : bL c.pre ss ls = true) (h : c.F ss ls = some (ss', ls')) (one : ss.all isOneV = true) {W : World} {args : List Value} (ha : @VRL (symL ss ls one) (phiW W) c.pre.vs args) :
    Calls P c.g ⟨args⟩ W fun e w' => ∃ v, e = .returned v ∧ (∀ S' : SymV, Agrees S' ss' ls' → ∃ φ', @VR S' φ' (ltuple c.post.vs) v) ∧ Below W.heap.size W w' := by
  obtain ⟨h1, h2, h3⟩ := c.ok ss ls ss' ls' hb h
  have hmr : @MR (symL ss ls one) (phiW W) (patM c.pre.mem).get W := by rw [hm]; exact phiW_mr
  have hbd : Bd (phiW W) (nC c.pre.mem) := by rw [hm]; exact phiW_bd
  refine (h3 one (phiW W) W args hmr hbd rfl ha).mono ?_
  rintro e w' ⟨v, he, hS⟩
  unfold bL at h1
  simp only [Bool.and_eq_true] at h1
  obtain ⟨φ', q1, q2, q3, q4⟩ := hS (symL ss' ls' h1.2) symL_agrees
  refine ⟨v, by rw [he, hpan]; rfl, fun S' hS' => ?_, ⟨q4.fr.os, q4.fr.tape, q4.fr.output, q4.fr.size, fun b hb => q4.fr.same b hb fun id l hl => (phiW_live hl).elim⟩⟩
  obtain ⟨φ2, r1, _⟩ := hS S' hS'
  exact ⟨φ2, r1⟩
end Go.Eng
/- slices.Sorted(maps.Keys(m)) at keys of the kind int: what a function that does so gives, as a primitive of the engine. -/
namespace Go.Eng
open Go.Maps Go.Shelf Go.RowKit
variable [SymV]

theorem ins1_perm (x : Int) : ∀ l : List Int, (ins1 x l).Perm (x :: l)
  | [] => by have _s := SymV.val; have _s := SymV.val; exact .refl _
  | y :: r => by
    simp only [ins1]
    cases decide (x ≤ y) with
    | true => exact .refl _
    | false => exact ((ins1_perm x r).cons y).trans (.swap x y r)

theorem isort_perm : ∀ l : List Int, (isort l).Perm l
  | [] => .refl _
  | x :: r => (ins1_perm x _).trans ((isort_perm r).cons x)

theorem ins1_sorted (x : Int) : ∀ l : List Int, l.Pairwise (fun a b => leI a b = true) → (ins1 x l).Pairwise (fun a b => leI a b = true)
  | [], _ => by simp [ins1]
  | y :: r, h => by
    simp only [ins1]
    cases hd : decide (x ≤ y) with
    | true =>
      rw [cond_true]
      refine .cons (fun a ha => ?_) h
      simp only [decide_eq_true_eq] at hd
      rcases List.mem_cons.1 ha with rfl | ha
      · simpa [leI] using hd
      · have := List.rel_of_pairwise_cons h ha
        simp only [leI, decide_eq_true_eq] at this ⊢
        omega
    | false =>
      rw [cond_false]
      simp only [decide_eq_false_iff_not] at hd
      refine .cons (fun a ha => ?_) (ins1_sorted x r h.of_cons)
      rcases List.mem_cons.1 ((ins1_perm x r).mem_iff.1 ha) with rfl | ha
      · simp only [leI, decide_eq_true_eq]; omega
      · exact List.rel_of_pairwise_cons h ha

theorem isort_sorted : ∀ l : List Int, (isort l).Pairwise (fun a b => leI a b = true)
  | [] => .nil
  | x :: r => ins1_sorted x _ (isort_sorted r)

theorem mergeSort_isort {l ks : List Int} (h : l.Perm ks) : l.mergeSort leI = isort ks := by
  have tr : ∀ a b c : Int, leI a b = true → leI b c = true → leI a c = true := fun a b c h1 h2 => by simp only [leI, decide_eq_true_eq] at *; exact Int.le_trans h1 h2
  have to : ∀ a b : Int, (leI a b || leI b a) = true := fun a b => by simp only [leI, Bool.or_eq_true, decide_eq_true_eq]; exact Int.le_total a b
  refine List.Perm.eq_of_pairwise (le := fun a b => leI a b = true) (fun a b _ _ h1 h2 => ?_) (List.pairwise_mergeSort tr to l) (isort_sorted ks) (((List.mergeSort_perm l leI).trans h).trans (isort_perm ks).symm)
  simp only [leI, decide_eq_true_eq] at h1 h2
  exact Int.le_antisymm h1 h2

/-- a map whose keys are these -/
def HasKeys (P : Program) (kt : TypeId) (w : World) (r : Nat) (ks : List Int) : Prop :=
  ∃ (nn : Nat) (D0 : DataW Unit), w.ownsMap P kt (fun _ => some (.nil, [])) r nn D0 ∧ (intKeys D0).Perm ks ∧ Maps.size D0 ≤ 1048576

def keysL : List MapEntry → Option (List Int)
  | [] => some []
  | e :: r => match e.key with
    | .int .i64 n => bif (Lit.int .i64 n).wf then (keysL r).map (n :: ·) else none
    | _ => none

def memI (x : Int) : List Int → Bool
  | [] => false
  | y :: r => decide (x = y) || memI x r
def nodupI : List Int → Bool
  | [] => true
  | x :: r => !memI x r && nodupI r
def memN (x : Nat) : List Nat → Bool
  | [] => false
  | y :: r => Nat.beq x y || memN x r
def nodupN : List Nat → Bool
  | [] => true
  | x :: r => !memN x r && nodupN r

theorem memI_iff {x : Int} : ∀ {l : List Int}, memI x l = true ↔ x ∈ l
  | [] => by have _s := SymV.val; simp [memI]
  | y :: r => by simp [memI, memI_iff (l := r)]
theorem nodupI_iff : ∀ {l : List Int}, nodupI l = true → l.Nodup
  | [], _ => .nil
  | x :: r, h => by
    simp only [nodupI, Bool.and_eq_true, Bool.not_eq_true'] at h
    refine List.nodup_cons.2 ⟨fun hm => ?_, nodupI_iff h.2⟩
    rw [memI_iff.2 hm] at h; cases h.1
theorem memN_iff {x : Nat} : ∀ {l : List Nat}, memN x l = true ↔ x ∈ l
  | [] => by have _s := SymV.val; simp [memN]
  | y :: r => by simp [memN, memN_iff (l := r)]
theorem nodupN_iff : ∀ {l : List Nat}, nodupN l = true → l.Nodup
  | [], _ => .nil
  | x :: r, h => by
    simp only [nodupN, Bool.and_eq_true, Bool.not_eq_true'] at h
    refine List.nodup_cons.2 ⟨fun hm => ?_, nodupN_iff h.2⟩
    rw [memN_iff.2 hm] at h; cases h.1

theorem keysL_at : ∀ {es : List MapEntry} {ks : List Int}, keysL es = some ks → es.map (·.key) = ks.map encZ ∧ ∀ x ∈ ks, (Lit.int .i64 x).wf = true
  | [], ks, h => by have _s := SymV.val; cases h; simp
  | e :: r, ks, h => by
    simp only [keysL] at h
    split at h
    · rename_i n hk
      cases hw : (Lit.int .i64 n).wf with
      | false => rw [hw] at h; cases h
      | true =>
        rw [hw] at h
        simp only [cond_true, Option.map_eq_some_iff] at h
        obtain ⟨l, hl, rfl⟩ := h
        obtain ⟨h1, h2⟩ := keysL_at hl
        refine ⟨by simp [h1, hk], fun x hx => ?_⟩
        rcases List.mem_cons.1 hx with rfl | hx
        · exact hw
        · exact h2 x hx
    · cases h

def stampB (es : List MapEntry) (ks : List Int) : Bool := nodupI ks && Nat.ble es.length 1048576

theorem hasKeys_gen {P : Program} {kt : TypeId} (hkt : P.underlying kt = some (.int .i64)) {es' : Array MapEntry} {ck : Nat} {ks : List Int} {b : Nat} {w : World} (h1 : w.heap[b]? = some (.map es' ck)) (hst : Stamp es'.toList ck)
    (hkeys : es'.toList.map (·.key) = ks.map encZ) (k2 : ∀ x ∈ ks, (Lit.int .i64 x).wf = true) (hsz : es'.size ≤ 1048576) : HasKeys P kt w b ks := by
  have _s := SymV.val
  have hrd : ∀ x ∈ es'.toList, ∃ n : Int, n ∈ ks ∧ x.key = encZ n := fun x hx => by
    have : x.key ∈ es'.toList.map (·.key) := List.mem_map_of_mem hx
    rw [hkeys] at this
    obtain ⟨n, hn, he⟩ := List.mem_map.1 this
    exact ⟨n, hn, he.symm⟩
  have hkey : ∀ n ∈ ks, keyOf P kt (encZ n) = some (.int .i64 n) := fun n hn => by
    simp [keyOf, hkt, mapKey, k2 n hn]
  have hrg : ∀ x ∈ es'.toList, ∀ n : Int, n ∈ ks → x.key = encZ n → WideElems.rd (H := Unit) P kt (fun _ => some (.nil, [])) x = some (.int .i64 n, .nil) := fun x _ n hn he => by
    simp [WideElems.rd, he, hkey n hn]
  refine ⟨es'.toList.length, _, ⟨es', ck, h1, ⟨?_, ⟨hst.born, hst.nodup, hst.keys⟩, ?_⟩, by simp, rfl⟩, ?_, ?_⟩
  · have : maxLen ≥ 1048576 := by decide
    omega
  · intro x hx
    obtain ⟨n, hn, he⟩ := hrd x hx
    exact ⟨_, hrg x hx n hn he⟩
  · show ((es'.toList.map _).foldr DataW.insert [] |>.map fun p => intOf p.1).Perm ks
    refine ((WideShapes.sorted_perm _).map _).trans ?_
    have : ((es'.toList.map (WideElems.rg P kt (fun _ => some ((.nil : DataW Unit), [])))).map fun p => intOf p.1) = ks := by
      have hh : ∀ (xs : List MapEntry) (l : List Int), (∀ n ∈ l, keyOf P kt (encZ n) = some (.int .i64 n)) → xs.map (·.key) = l.map encZ → ((xs.map (WideElems.rg P kt (fun _ => some ((.nil : DataW Unit), [])))).map fun p => intOf p.1) = l := by
        intro xs
        induction xs with
        | nil => intro l _ h; cases l with
          | nil => rfl
          | cons a b => simp at h
        | cons x r ih =>
          intro l hl h
          cases l with
          | nil => simp at h
          | cons a b =>
            simp only [List.map_cons, List.cons.injEq] at h ⊢
            refine ⟨?_, ih b (fun n hn => hl n (by simp [hn])) h.2⟩
            simp [WideElems.rg, WideElems.rd, h.1, hl a (by simp), intOf]
      exact hh es'.toList ks hkey hkeys
    rw [this]
  · show ((es'.toList.map _).foldr DataW.insert []).length ≤ 1048576
    rw [(WideShapes.sorted_perm _).length_eq, List.length_map, Array.length_toList]
    exact hsz

theorem hasKeys_of {P : Program} {kt : TypeId} (hkt : P.underlying kt = some (.int .i64)) {φ : Phi} {es : List MapEntry} {ck : Nat} {ks : List Int} {l : Loc} {w : World} (hb : BR φ (.map es ck) l w) (hk : keysL es = some ks) (hs : stampB es ks = true) : HasKeys P kt w l.b ks := by
  obtain ⟨es', ck', h1, h2, hst⟩ := hb
  obtain ⟨k1, k2⟩ := keysL_at hk
  unfold stampB at hs
  simp only [Bool.and_eq_true] at hs
  have s4 := Nat.le_of_ble_eq_true hs.2
  have hlen := h2.len
  have hkeys : es'.toList.map (·.key) = es.map (·.key) := by
    refine List.ext_getElem? fun i => ?_
    rw [List.getElem?_map, List.getElem?_map]
    cases he : es[i]? with
    | none => rw [List.getElem?_eq_none_iff] at he; rw [List.getElem?_eq_none (by omega)]
    | some e => obtain ⟨e', g1, g2, _⟩ := h2.at_ i e he; rw [g1]; simp [g2]
  exact hasKeys_gen hkt h1 hst (hkeys.trans k1) k2 (by rw [← Array.length_toList]; omega)

theorem intsOf_at : ∀ {rs : List (List Value)} {ks : List Int}, intsOf rs = some ks → rs.length = ks.length ∧ ∀ (i : Nat) (r : List Value), rs[i]? = some r → ∃ n cs, r = .int .i64 n :: cs ∧ ks[i]? = some n
  | [], ks, h => by have _s := SymV.val; cases h; exact ⟨rfl, fun i r hr => by cases hr⟩
  | r0 :: t, ks, h => by
    unfold intsOf at h
    split at h
    · rename_i he; cases he
    · rename_i n cs t' he
      cases he
      simp only [Option.map_eq_some_iff] at h
      obtain ⟨l, hl, rfl⟩ := h
      obtain ⟨i1, i2⟩ := intsOf_at hl
      refine ⟨by simp [i1], fun i r hr => ?_⟩
      cases i with
      | zero => simp at hr; subst hr; exact ⟨n, cs, rfl, rfl⟩
      | succ i => simpa using i2 i r (by simpa using hr)
    · cases h

theorem hasKeys_mp {P : Program} {kt : TypeId} (hkt : P.underlying kt = some (.int .i64)) {φ : Phi} {k s : Nat} {ks : List Int} {rs : List (List Value)} {l : Loc} {w : World} (hb : BR φ (.mp k s) l w) (hr : lrows (SymV.lst s) = some rs) (hk : intsOf rs = some ks) : HasKeys P kt w l.b ks := by
  obtain ⟨es', ck', rs', h1, h2, h3, hst, hsz⟩ := hb
  rw [hr] at h2
  cases h2
  obtain ⟨i1, i2⟩ := intsOf_at hk
  have hlen := h3.len
  have hat : ∀ i n, ks[i]? = some n → ∃ e : MapEntry, es'.toList[i]? = some e ∧ e.key = encZ n ∧ (Lit.int .i64 n).wf = true := fun i n hn => by
    have hi : i < rs.length := by rw [i1]; exact (List.getElem?_eq_some_iff.1 hn).1
    obtain ⟨n', cs', e1, e2⟩ := i2 i _ (List.getElem?_eq_getElem hi)
    rw [hn] at e2
    cases e2
    obtain ⟨kk, n2, c2, e, b1, b2, b3, b4, b5, b6, b7⟩ := h3.at_ i _ (List.getElem?_eq_getElem hi)
    rw [e1] at b1
    cases b1
    exact ⟨e, b5, b6, b2⟩
  refine hasKeys_gen hkt h1 hst ?_ (fun x hx => ?_) (by rw [← Array.length_toList]; omega)
  · refine List.ext_getElem? fun i => ?_
    rw [List.getElem?_map, List.getElem?_map]
    cases he : ks[i]? with
    | none => rw [List.getElem?_eq_none_iff] at he; rw [List.getElem?_eq_none (by omega)]; rfl
    | some n => obtain ⟨e, g1, g2, _⟩ := hat i n he; rw [g1, Option.map_some, Option.map_some, g2]
  · obtain ⟨i, hi, rfl⟩ := List.getElem_of_mem hx
    obtain ⟨e, _, _, h⟩ := hat i _ (List.getElem?_eq_getElem hi)
    exact h

/-- what a function that hands back a map's keys, sorted, gives: 'fn' the function, 'fnone' what it asks first, the map at offset k of the receiver -/
def KeysFn (P : Program) (fn fnone kt k : Nat) : Prop :=
  ∀ (B off : Nat) (w : World) (Q : World → Prop) (ks : List Int), Calls P fnone #[.pointer (some ⟨B, off, none⟩)] w (fun e w1 => e = .returned (.bool false) ∧ Q w1) →
    (∀ w1, Q w1 → ∃ r, w1.cell? ⟨B, off + k, none⟩ = some (.map (some r)) ∧ HasKeys P kt w1 r ks) →
    Calls P fn #[.pointer (some ⟨B, off, none⟩)] w fun e w2 => ∃ v w1, e = .returned v ∧ Q w1 ∧ w2.ownsRow w1.heap.size kt 1 v ks.length ((isort ks).map encZ) ∧ (v = .slice none 0 0 ↔ ks = []) ∧ Below w1.heap.size w1 w2

noncomputable def keysPrim [SymD] (none_ : CallT) (fnone k : Nat) (args : List Value) (m : LMem) : Option (Value × LMem) :=
  match args with
  | [.pointer (some ⟨b, off, none⟩)] =>
    match m.get b with
    | some (.cells _) =>
      match none_ fnone [.pointer (some ⟨b, off, none⟩)] m with
      | some (.bool false, m1) => match m1.get b with
        | some (.cells c) => match c[off + k]? with
          | some (.map (some r)) => match m1.get r with
            | some (.map es _) => match keysL es with
              | some ks => bif stampB es ks then
                  (match ks with
                  | [] => some (.slice none 0 0, m1)
                  | x :: xs => match m1.alloc (.cells ((isort (x :: xs)).map encZ)) with
                    | some m2 => some (.slice (some ⟨m1.next, 0, some 1⟩) (xs.length + 1) (xs.length + 1), m2)
                    | none => none)
                else none
              | none => none
            | some (.mp _ s) => lown 1 (llk .mkeys [.float .f64 s] SymD.ltab) m1 none
            | _ => none
          | _ => none
        | _ => none
      | _ => none
    | _ => none
  | _ => none

theorem Sim.below {n : Nat} {φ : Phi} {w w' : World} (h : Below w.heap.size w w') : Sim n φ φ w w' := by
  have _s := SymV.val
  have _s := SymV.val
  exact
  ⟨Ext.refl φ, fun id l h => .inl ⟨id, l, h, rfl⟩, fun _ _ h => h, fun _ _ h => .inl h, ⟨h.os, h.tape, h.output, h.size, fun k hk _ => h.block k hk⟩⟩

theorem encZ_VRL {φ : Phi} : ∀ l : List Int, VRL φ (l.map encZ) (l.map encZ)
  | [] => by have _s := SymV.val; exact .nil
  | x :: r => .cons _ _ _ _ (.int _ x) (encZ_VRL r)

theorem keys_core {P : Program} {fn fnone kt k : Nat} (hf : KeysFn P fn fnone kt k) {none_ : CallT} (hn : CallSound P none_) {b off r : Nat} {c0 c : List Value} {m m1 : LMem} {ks : List Int} (hc0 : m.get b = some (.cells c0))
    (hcall : none_ fnone [.pointer (some ⟨b, off, none⟩)] m = some (.bool false, m1)) (hw : WF m) (hc : m1.get b = some (.cells c)) (hr : c[off + k]? = some (.map (some r)))
    (hmap : ∀ φ1 w1 y, MR φ1 m1.get w1 → VR φ1 (.map (some r)) y → ∃ q, y = .map (some q) ∧ HasKeys P kt w1 q ks) : ∀ φ w args', MR φ m.get w → Bd φ m.next → VRL φ [.pointer (some ⟨b, off, none⟩)] args' →
      Calls P fn ⟨args'⟩ w fun e w2 => ∃ v w1 φ1, e = .returned v ∧ (Sim m.next φ φ1 w w1 ∧ MR φ1 m1.get w1 ∧ Bd φ1 m1.next) ∧ w2.ownsRow w1.heap.size kt 1 v ks.length ((isort ks).map encZ) ∧ (v = .slice none 0 0 ↔ ks = []) ∧ Below w1.heap.size w1 w2 := by
  obtain ⟨⟨c1, c2⟩, c3⟩ := hn fnone _ m _ m1 hcall hw
  intro φ w args' hm hb ha
  have ha' := ha
  cases ha with
  | cons _ y _ ys hy hys =>
  cases hys
  have hcl := c3 φ w _ hm hb ha'
  cases hy with
  | pdead _ _ _ a hd => cases hm.deadB hc0 hd (fun _ _ _ h => by cases h)
  | ptr _ _ l hl =>
    refine (hf l.b (l.sh + off) w (fun w1 => ∃ φ1, Sim m.next φ φ1 w w1 ∧ MR φ1 m1.get w1 ∧ Bd φ1 m1.next) ks (hcl.mono fun e w1 ⟨v', φ1, he, hsim, hv, hm1, hb1⟩ => ?_) ?_).mono ?_
    · cases hv
      exact ⟨he, φ1, hsim, hm1, hb1⟩
    · rintro w1 ⟨φ1, hsim, hm1, hb1⟩
      rcases hsim.ext.at hl with h1 | h1
      · obtain ⟨B, g1, g2⟩ := hm1.live b l h1
        rw [hc] at g1
        cases g1
        obtain ⟨c', e, k1, k2, k3, k4⟩ := g2
        obtain ⟨v', k5, k6⟩ := k4 _ _ hr
        have hcell : w1.cell? ⟨l.b, l.sh + off + k, none⟩ = some v' := by
          simp only [World.cell?, k1]
          rw [← k5, Nat.add_assoc]; rfl
        obtain ⟨q, rfl, hq⟩ := hmap φ1 w1 v' hm1 k6
        exact ⟨q, hcell, hq⟩
      · cases hm1.deadB hc h1 (fun _ _ _ h => by cases h)
    · rintro e w2 ⟨v, w1, he, ⟨φ1, hq⟩, h1, h2, h3⟩
      exact ⟨v, w1, φ1, he, hq, h1, h2, h3⟩

theorem keys_mr {φ1 : Phi} {m1 : LMem} {w1 w2 : World} (hm1 : MR φ1 m1.get w1) (hbel : Below w1.heap.size w1 w2) : MR φ1 m1.get w2 :=
  ⟨fun id l hl => by obtain ⟨B, g1, g2⟩ := hm1.live id l hl; exact ⟨B, g1, g2.mono (Ext.refl φ1) (hbel.block _ g2.lt)⟩, hm1.dead, hm1.nils, hm1.inj, hm1.pin.at fun b hb _ => hbel.block b hb⟩

theorem keysPrim_ok {P : Program} {fn fnone kt k : Nat} (hkt : P.underlying kt = some (.int .i64)) (hf : KeysFn P fn fnone kt k) {none_ : CallT} (hn : CallSound P none_) {args : List Value} {m m' : LMem} {v : Value}
    (h : keysPrim none_ fnone k args m = some (v, m')) (hw : WF m) : SC P fn args m v m' := by
  unfold keysPrim at h
  split at h <;> try cases h
  rename_i b off
  split at h <;> try cases h
  rename_i c0 hc0
  split at h <;> try cases h
  rename_i m1 hcall
  obtain ⟨⟨c1, c2⟩, c3⟩ := hn fnone _ m _ m1 hcall hw
  split at h <;> try cases h
  rename_i c hc
  split at h <;> try cases h
  rename_i r hr
  split at h <;> try cases h
  · rename_i es ck hes
    split at h <;> try cases h
    rename_i ks hks
    cases hst : stampB es ks with
    | false => rw [hst] at h; cases h
    | true =>
    rw [hst] at h
    simp only [cond_true] at h
    have key := keys_core (ks := ks) hf hn hc0 hcall hw hc hr fun φ1 w1 y hm1 hy => by
      cases hy with
      | map _ l' hl' =>
        obtain ⟨B, g1, g2⟩ := hm1.live r l' hl'
        rw [hes] at g1
        cases g1
        exact ⟨l'.b, rfl, hasKeys_of hkt g2 hks hst⟩
      | mdead _ r' hd => cases hm1.deadB hes hd (fun _ _ _ h => by cases h)
    cases ks with
    | nil =>
      cases h
      refine ⟨⟨c1, c2⟩, fun φ w args' hm hb ha => (key φ w args' hm hb ha).mono ?_⟩
      rintro e w2 ⟨v, w1, φ1, rfl, ⟨hsim, hm1, hb1⟩, _, hnil, hbel⟩
      rw [hnil.2 rfl]
      exact ⟨_, φ1, rfl, hsim.trans c1 (Sim.below hbel), .snil 0 0, keys_mr hm1 hbel, hb1⟩
    | cons x xs =>
      simp only at h
      split at h <;> try cases h
      rename_i m2 hal
      obtain ⟨a1, a2, a3, a4⟩ := LMem.alloc_spec c2 hal
      refine ⟨⟨by omega, a4⟩, fun φ w args' hm hb ha => (key φ w args' hm hb ha).mono ?_⟩
      rintro e w2 ⟨v, w1, φ1, rfl, ⟨hsim, hm1, hb1⟩, hrow, hnil, hbel⟩
      obtain ⟨_, hrow | ⟨g, cap, cur, rfl, r1, r2, r3, r4, r5, r6⟩⟩ := hrow
      · have := hnil.1 hrow.1; cases this
      have hn0 : φ1 m1.next = none := hb1.none (Nat.le_refl _)
      simp only [Nat.mul_one] at r5 r6
      have hglt : g < w2.heap.size := (Array.getElem?_eq_some_iff.1 r2).1
      refine ⟨_, ins φ1 m1.next ⟨g, 0, cap, 0, 0⟩, rfl, hsim.trans c1 ⟨ins_ext hn0, fun id l' hl' => ?_, fun id hid h0 => ?_, (fun _ _ h => .inl h), (Sim.below (n := 0) (φ := φ1) hbel).fr⟩, ?_, ?_, ?_⟩
      · by_cases he : id = m1.next
        · subst he; rw [ins_same] at hl'; cases hl'; exact .inr r1
        · rw [ins_other he] at hl'; exact .inl ⟨id, l', hl', rfl⟩
      · rw [ins_other (by omega)]; exact h0
      · have := VR.slice (φ := ins φ1 m1.next ⟨g, 0, cap, 0, 0⟩) m1.next 0 (some 1) (xs.length + 1) (xs.length + 1) cap ⟨g, 0, cap, 0, 0⟩ (ins_same _ _ _) (Nat.le_refl _) r3 (fun h => by cases h) (fun e he => by cases he; simp)
        exact this
      · refine (keys_mr hm1 hbel).insert hn0 (fun id l' hl' => ?_) a2 (fun j hj _ => a3 j hj) (fun id l' hl' => rfl) ?_ (hm1.pin.mono' rfl (fun id l' hl' => by
            by_cases he : id = m1.next
            · subst he; rw [ins_same] at hl'; cases hl'; exact .inr r1
            · rw [ins_other he] at hl'; exact .inl ⟨id, l', hl', rfl⟩) fun b _ hb _ => hbel.block b hb)
        · obtain ⟨B, g1, g2⟩ := hm1.live id l' hl'
          have := g2.lt
          show l'.b ≠ g
          omega
        · refine ⟨cur, kt, r2, r5, ?_, fun i v hv => ?_⟩
          · show 0 + ((isort (x :: xs)).map encZ).length ≤ cap
            rw [List.length_map, (isort_perm _).length_eq]
            simpa using r3
          · have hv' : ((isort (x :: xs)).map encZ)[i]? = some v := hv
            rw [← r6] at hv'
            have hi : i < (x :: xs).length := by
              rcases Nat.lt_or_ge i (x :: xs).length with hlt | hge
              · exact hlt
              · rw [List.getElem?_take_eq_none hge] at hv'; cases hv'
            rw [List.getElem?_take_of_lt hi] at hv'
            refine ⟨v, ?_, ?_⟩
            · rw [Nat.zero_add]; simpa using hv'
            · have : v ∈ (isort (x :: xs)).map encZ := List.mem_of_getElem? hv
              obtain ⟨n, _, rfl⟩ := List.mem_map.1 this
              exact .int _ n
      · rw [a1]; exact hb1.ins
  · rename_i k0 s hes
    obtain ⟨af, s', m2, hl, hal, rfl, hk⟩ := lown_spec h
    rcases hk with ⟨_, rfl⟩ | ⟨_, hk, _⟩
    case inr => cases hk
    obtain ⟨a1, a2, a3, a4⟩ := LMem.alloc_spec c2 hal
    obtain ⟨_, _, h3⟩ := llk_spec SymV.lok hl
    have h4 : (match lrows (SymV.lst s) with
      | some [] => some (.slice none 0 0)
      | some rs => (intsOf rs).map fun ns => lv ((isort ns).map fun n => [.int .i64 n])
      | none => none) = some (SymV.lst s') := h3
    refine ⟨⟨by omega, a4⟩, fun φ w args' hm hb ha => ?_⟩
    have hdead : ∀ φ1 w1, MR φ1 m1.get w1 → φ1 r ≠ some none := fun φ1 w1 hm1 hd => by cases hm1.deadB hes hd (fun _ _ _ h => by cases h)
    have hmap : ∀ (rs : List (List Value)) (ks : List Int), lrows (SymV.lst s) = some rs → intsOf rs = some ks → ∀ φ1 w1 y, MR φ1 m1.get w1 → VR φ1 (.map (some r)) y → ∃ q, y = .map (some q) ∧ HasKeys P kt w1 q ks := by
      intro rs ks hrs hks φ1 w1 y hm1 hy
      cases hy with
      | map _ l' hl' =>
        obtain ⟨B, g1, g2⟩ := hm1.live r l' hl'
        rw [hes] at g1
        cases g1
        exact ⟨l'.b, rfl, hasKeys_mp hkt g2 hrs hks⟩
      | mdead _ r' hd => exact absurd hd (hdead φ1 w1 hm1)
    split at h4
    · rename_i hrs
      have hs' := (Option.some.inj h4).symm
      refine (keys_core (ks := []) hf hn hc0 hcall hw hc hr (hmap [] [] hrs rfl) φ w args' hm hb ha).mono ?_
      rintro e w2 ⟨v, w1, φ1, rfl, ⟨hsim, hm1, hb1⟩, _, hnil, hbel⟩
      rw [hnil.2 rfl]
      have hnx : φ1 m1.next = none := hb1.none (Nat.le_refl _)
      refine ⟨_, insN φ1 m1.next, rfl, hsim.trans c1 ⟨insN_ext hnx, fun id l hl => ?_, fun id hid h0 => ?_, (fun _ _ h => .inl h), (Sim.below (n := 0) (φ := φ1) hbel).fr⟩, .chnil _ (insN_same _ _), (keys_mr hm1 hbel).insertN hnx a2 hs' fun j hj _ => a3 j hj, fun id hid => ?_⟩
      · have hne : id ≠ m1.next := fun h => by rw [h, insN_same] at hl; cases hl
        rw [insN_other hne] at hl
        exact .inl ⟨id, l, hl, rfl⟩
      · rw [insN_other (by omega)]; exact h0
      · rw [a1]
        by_cases he : id = m1.next
        · omega
        · rw [insN_other he] at hid
          have := hb1 id hid; omega
    · rename_i rs hne hrs
      simp only [Option.map_eq_some_iff] at h4
      obtain ⟨ks, hks, hs'⟩ := h4
      have hkne : ks ≠ [] := by
        intro h0
        subst h0
        have := (intsOf_at hks).1
        exact hne (List.eq_nil_of_length_eq_zero this)
      refine (keys_core (ks := ks) hf hn hc0 hcall hw hc hr (hmap rs ks hrs hks) φ w args' hm hb ha).mono ?_
      rintro e w2 ⟨v, w1, φ1, rfl, ⟨hsim, hm1, hb1⟩, hrow, hnil, hbel⟩
      obtain ⟨_, hrow | ⟨g, cap, cur, rfl, r1, r2, r3, r4, r5, r6⟩⟩ := hrow
      · exact absurd (hnil.1 hrow.1) hkne
      have hn0 : φ1 m1.next = none := hb1.none (Nat.le_refl _)
      simp only [Nat.mul_one] at r5 r6
      have hglt : g < w2.heap.size := (Array.getElem?_eq_some_iff.1 r2).1
      have hln : ((isort ks).map fun n => [Value.int .i64 n]).length = ks.length := by rw [List.length_map, (isort_perm _).length_eq]
      have hbr : BR (ins φ1 m1.next ⟨g, 0, cap, ks.length, 1⟩) (.lst false 1 s') ⟨g, 0, cap, ks.length, 1⟩ w2 := by
        refine LstAt.br (rs := (isort ks).map fun n => [Value.int .i64 n]) hs'.symm ⟨cur, kt, (0, 0), r2, fun _ => rfl, r5, hln, rfl, ⟨Nat.le_refl _, by show 0 + ks.length * 1 ≤ cap; omega⟩, ⟨fun i r hr => ?_, fun i r j d hr hd => ?_⟩⟩
        · rw [List.getElem?_map, Option.map_eq_some_iff] at hr
          obtain ⟨n, _, rfl⟩ := hr
          rfl
        · rw [List.getElem?_map, Option.map_eq_some_iff] at hr
          obtain ⟨n, hn', rfl⟩ := hr
          cases j with
          | succ j => cases hd
          | zero =>
          cases hd
          have hi : i < ks.length := by
            have := (List.getElem?_eq_some_iff.1 hn').1
            rw [(isort_perm _).length_eq] at this
            exact this
          have h5 : (cur.toList.take ks.length)[i]? = some (encZ n) := by rw [r6, List.getElem?_map, hn']; rfl
          rw [List.getElem?_take_of_lt hi] at h5
          exact ⟨encZ n, by simpa using h5, .sc _ rfl⟩
      refine ⟨_, ins φ1 m1.next ⟨g, 0, cap, ks.length, 1⟩, rfl, hsim.trans c1 ⟨ins_ext hn0, fun id l' hl' => ?_, fun id hid h0 => ?_, (fun _ _ h => .inl h), (Sim.below (n := 0) (φ := φ1) hbel).fr⟩, ?_, ?_, ?_⟩
      · by_cases he : id = m1.next
        · subst he; rw [ins_same] at hl'; cases hl'; exact .inr r1
        · rw [ins_other he] at hl'; exact .inl ⟨id, l', hl', rfl⟩
      · rw [ins_other (by omega)]; exact h0
      · exact .chan m1.next cap ⟨g, 0, cap, ks.length, 1⟩ (ins_same _ _ _) r3 (by show 0 + cap * 1 ≤ cap; omega)
      · refine (keys_mr hm1 hbel).insert hn0 (fun id l' hl' => ?_) a2 (fun j hj _ => a3 j hj) (fun id l' hl' => rfl) hbr (hm1.pin.mono' rfl (fun id l' hl' => by
            by_cases he : id = m1.next
            · subst he; rw [ins_same] at hl'; cases hl'; exact .inr r1
            · rw [ins_other he] at hl'; exact .inl ⟨id, l', hl', rfl⟩) fun b _ hb _ => hbel.block b hb)
        obtain ⟨B, g1, g2⟩ := hm1.live id l' hl'
        have := g2.lt
        show l'.b ≠ g
        omega
      · rw [a1]; exact hb1.ins
    · cases h4

/-- a primitive for one function -/
noncomputable def keysPrim1 [SymD] (P : Program) (X : ExtT) (fn fnone k : Nat) : PrimT := fun g => bif Nat.beq g fn then some (keysPrim (callFF P X (fun _ => none) 1000 20) fnone k) else none

theorem keysPrim1_ok {P : Program} {X : ExtT} (hP : POK P X) {fn fnone kt k : Nat} (hkt : P.underlying kt = some (.int .i64)) (hf : KeysFn P fn fnone kt k) : PrimOK P (keysPrim1 P X fn fnone k) := by
  intro g p h args m v m' hp hw
  unfold keysPrim1 at h
  cases hb : Nat.beq g fn with
  | false => rw [hb] at h; cases h
  | true =>
    rw [hb] at h
    cases h
    have := Nat.eq_of_beq_eq_true hb
    subst this
    exact keysPrim_ok hkt hf (by rw [callFF_eq]; exact call_sound hP (noPrim P) 1000 20) hp hw

end Go.Eng
/- What trees say, worked out quickly: values are kept as constants, symbols in tries. Whatever it answers, the contract's own function answers. -/
namespace Go.Eng
open Go.RowKit

section force
variable {β : Type}
def fK (kd : IntKind) (k : IntKind → Option β) : Option β := match kd with
  | .i8 => k .i8
  | .i16 => k .i16
  | .i32 => k .i32
  | .i64 => k .i64
  | .u8 => k .u8
  | .u16 => k .u16
  | .u32 => k .u32
  | .u64 => k .u64
theorem fK_eq (kd : IntKind) (k : IntKind → Option β) : fK kd k = k kd := by cases kd <;> rfl
noncomputable def fN (n : Nat) (k : Nat → Option β) : Option β := Nat.rec (motive := fun _ => Option β) (k 0) (fun p _ => k (Nat.succ p)) n
theorem fN_eq (n : Nat) (k : Nat → Option β) : fN n k = k n := by cases n <;> rfl
noncomputable def fI (n : Int) (k : Int → Option β) : Option β := match n with
  | .ofNat m => fN m fun m => k (.ofNat m)
  | .negSucc m => fN m fun m => k (.negSucc m)
theorem fI_eq (n : Int) (k : Int → Option β) : fI n k = k n := by
  cases n with
  | ofNat m => exact fN_eq m fun m => k (.ofNat m)
  | negSucc m => exact fN_eq m fun m => k (.negSucc m)
noncomputable def fB (b : Bool) (k : Bool → Option β) : Option β := match b with
  | true => k true
  | false => k false
theorem fB_eq (b : Bool) (k : Bool → Option β) : fB b k = k b := by cases b <;> rfl
def fLs (f : Value → (Value → Option β) → Option β) : List Value → (List Value → Option β) → Option β
  | [], k => k []
  | x :: r, k => f x fun x => fLs f r fun r => k (x :: r)
theorem fLs_eq {f : Value → (Value → Option β) → Option β} (h : ∀ v k, f v k = k v) : ∀ (l : List Value) (k : List Value → Option β), fLs f l k = k l := by
  intro l
  induction l with
  | nil => intro k; rfl
  | cons x r ih => intro k; show f x _ = _; rw [h, ih]
/-- a value as a constant -/
noncomputable def fD : Nat → Value → (Value → Option β) → Option β
  | 0, v, k => k v
  | d + 1, v, k => match v with
    | .int kd n => fK kd fun kd => fI n fun n => k (.int kd n)
    | .bool b => fB b fun b => k (.bool b)
    | .tuple rs => match rs with
      | ⟨rs⟩ => fLs (fD d) rs fun rs => k (.tuple ⟨rs⟩)
    | .agg rs => match rs with
      | ⟨rs⟩ => fLs (fD d) rs fun rs => k (.agg ⟨rs⟩)
    | .iface o x => fN o fun o => fD d x fun x => k (.iface o x)
    | .slice a n c => match a with
      | none => fN n fun n => fN c fun c => k (.slice none n c)
      | some a => k (.slice (some a) n c)
    | v => k v
theorem fD_eq : ∀ (d : Nat) (v : Value) (k : Value → Option β), fD d v k = k v := by
  intro d
  induction d with
  | zero => intro v k; rfl
  | succ d ih =>
    intro v k
    cases v with
    | int kd n => simp only [fD]; rw [fK_eq, fI_eq]
    | bool b => simp only [fD]; rw [fB_eq]
    | tuple rs => cases rs; simp only [fD]; rw [fLs_eq ih]
    | agg rs => cases rs; simp only [fD]; rw [fLs_eq ih]
    | iface o x => simp only [fD]; rw [fN_eq, ih]
    | slice a n c => cases a with
      | none => simp only [fD]; rw [fN_eq, fN_eq]
      | some a => simp only [fD]
    | _ => simp only [fD]
end force

/-- what symbols stand for, as tries -/
structure QE where
  s : TM Value
  l : TM Value

def QE.of (q : QE) (env : Env) : Prop := (∀ j v, j < 65536 → q.s.get j = some v → env.s j = v) ∧ ∀ j v, j < 65536 → q.l.get j = some v → env.l j = v

noncomputable def gS {β : Type} (q : QE) (v : Value) (k : Value → Option β) : Option β := match v with
  | .complex _ n _ => bif Nat.blt n 65536 then (match q.s.get n with
    | some v => k v
    | none => none) else none
  | .float _ _ => none
  | v => fD 2 v k
noncomputable def gX {β : Type} (q : QE) (v : Value) (k : Value → Option β) : Option β := match v with
  | .complex _ n _ => bif Nat.blt n 65536 then (match q.s.get n with
    | some v => k v
    | none => none) else none
  | .float _ n => bif Nat.blt n 65536 then (match q.l.get n with
    | some v => k v
    | none => none) else none
  | v => fD 2 v k

theorem gS_ok {β : Type} {q : QE} {env : Env} (h : q.of env) {v : Value} {k : Value → Option β} {r : β} (hr : gS q v k = some r) : k (den env.s v) = some r := by
  unfold gS at hr
  split at hr
  · rename_i n _
    cases hb : Nat.blt n 65536 with
    | false => rw [hb] at hr; cases hr
    | true =>
      rw [hb, cond_true] at hr
      have hn : n < 65536 := by rw [Nat.blt_eq] at hb; exact hb
      cases hg : q.s.get n with
      | none => rw [hg] at hr; cases hr
      | some w => rw [hg] at hr; have := h.1 n w hn hg; subst this; exact hr
  · cases hr
  · rename_i h1 h2
    rw [fD_eq] at hr
    cases v <;> first | exact hr | exact absurd rfl (h1 _ _ _)
theorem gX_ok {β : Type} {q : QE} {env : Env} (h : q.of env) {v : Value} {k : Value → Option β} {r : β} (hr : gX q v k = some r) : k (denX env.s env.l v) = some r := by
  unfold gX at hr
  split at hr
  · rename_i n _
    cases hb : Nat.blt n 65536 with
    | false => rw [hb] at hr; cases hr
    | true =>
      rw [hb, cond_true] at hr
      have hn : n < 65536 := by rw [Nat.blt_eq] at hb; exact hb
      cases hg : q.s.get n with
      | none => rw [hg] at hr; cases hr
      | some w => rw [hg] at hr; have := h.1 n w hn hg; subst this; exact hr
  · rename_i n
    cases hb : Nat.blt n 65536 with
    | false => rw [hb] at hr; cases hr
    | true =>
      rw [hb, cond_true] at hr
      have hn : n < 65536 := by rw [Nat.blt_eq] at hb; exact hb
      cases hg : q.l.get n with
      | none => rw [hg] at hr; cases hr
      | some w => rw [hg] at hr; have := h.2 n w hn hg; subst this; exact hr
  · rename_i h1 h2
    rw [fD_eq] at hr
    cases v <;> first | exact hr | exact absurd rfl (h1 _ _ _) | exact absurd rfl (h2 _ _)
theorem gLs_ok {β : Type} {g : Value → (Value → Option β) → Option β} {f : Value → Value} (h : ∀ {v k} {r : β}, g v k = some r → k (f v) = some r) : ∀ (l : List Value) {k : List Value → Option β} {r : β}, fLs g l k = some r → k (l.map f) = some r := by
  intro l
  induction l with
  | nil => intro k r hr; exact hr
  | cons x t ih => intro k r hr; exact ih (h hr)

noncomputable def setT (t : TM Value) (n : Nat) : List Value → TM Value
  | [] => t
  | v :: r => setT (TM.set t n v) (Nat.succ n) r

theorem set_of {t : TM Value} {e : Nat → Value} (h : ∀ j v, j < 65536 → t.get j = some v → e j = v) (n : Nat) (v : Value) (hn : n < 65536) : ∀ j w, j < 65536 → (TM.set t n v).get j = some w → upd e n v j = w := by
  intro j w hj hg
  rw [TM.get_set, Nat.mod_eq_of_lt hn, Nat.mod_eq_of_lt hj] at hg
  unfold upd
  by_cases hnj : n = j
  · subst hnj
    rw [if_pos rfl] at hg
    cases hg
    rw [show Nat.beq n n = true from Nat.beq_refl n]; rfl
  · rw [if_neg hnj] at hg
    have : Nat.beq j n = false := by
      cases hb : Nat.beq j n with
      | false => rfl
      | true => exact absurd (Nat.eq_of_beq_eq_true hb).symm hnj
    rw [this]
    exact h j w hj hg
theorem setT_of : ∀ (l : List Value) {t : TM Value} {e : Nat → Value} (_ : ∀ j v, j < 65536 → t.get j = some v → e j = v) (n : Nat) (_ : n + l.length ≤ 65536), ∀ j w, j < 65536 → (setT t n l).get j = some w → updL e n l j = w := by
  intro l
  induction l with
  | nil => intro t e h n _ j w hj hg; exact h j w hj hg
  | cons v r ih =>
    intro t e h n hn j w hj hg
    have hn' : n + (r.length + 1) ≤ 65536 := hn
    exact ih (set_of h n v (by omega)) (n + 1) (by omega) j w hj hg

/-- a contract with a quick function -/
structure QC (P : Program) where
  c : Ctr P
  G : List Value → List Value → Option (List Value × List Value)
  ns : Nat
  nl : Nat
  ns_eq : ns = c.post.ns
  nl_eq : nl = c.post.nl
  ok : ∀ ss ls r, G ss ls = some r → c.F ss ls = some r

variable {P : Program}
noncomputable def evQ {α β : Type} (cs : List (QC P)) (K : α → QE → Option β) : Tr α → Nat → Nat → QE → Option β
  | .lf a, _, _, q => K a q
  | .d o xs t, n, m, q => fLs (gS q) xs fun vs => match sev o vs with
    | some v => fD 3 v fun v => bif Nat.blt n 65536 then evQ cs K t (Nat.succ n) m ⟨TM.set q.s n v, q.l⟩ else none
    | none => none
  | .t o xs a b, n, m, q => fLs (gS q) xs fun vs => match sev o vs with
    | some (.bool x) => bif x then evQ cs K a n m q else evQ cs K b n m q
    | _ => none
  | .e o xs t, n, m, q => fLs (gX q) xs fun vs => match lsev o vs with
    | some v => fD 6 v fun v => bif lsc o then (bif Nat.blt n 65536 then evQ cs K t (Nat.succ n) m ⟨TM.set q.s n v, q.l⟩ else none) else (bif Nat.blt m 65536 then evQ cs K t n (Nat.succ m) ⟨q.s, TM.set q.l m v⟩ else none)
    | none => none
  | .u o xs a b, n, m, q => fLs (gX q) xs fun vs => match lsev o vs with
    | some (.bool x) => bif x then evQ cs K a n m q else evQ cs K b n m q
    | _ => none
  | .l p ks t, n, m, q => gX q (fv p) fun v => match v with
    | .iface o (.agg ds) => match bindK ks (ds.toList.drop o) with
      | some (ss, ls) => fLs (fD 6) ss fun ss => fLs (fD 6) ls fun ls => bif Nat.ble (n + ss.length) 65536 && Nat.ble (m + ls.length) 65536 then evQ cs K t (Nat.add n (cntS ks)) (Nat.add m (cntL ks)) ⟨setT q.s n ss, setT q.l m ls⟩ else none
      | none => none
    | _ => none
  | .c i a t, n, m, q => match cs[i]? with
    | some c => fLs (gS q) a.ss fun ss => fLs (gX q) (a.ls.map fun y => y.1) fun ls => match c.G ss ls with
      | some (ss, ls) => bif Nat.ble (n + ss.length) 65536 && Nat.ble (m + ls.length) 65536 then evQ cs K t (Nat.add n c.ns) (Nat.add m c.nl) ⟨setT q.s n ss, setT q.l m ls⟩ else none
      | none => none
    | none => none
  | _, _, _, _ => none

theorem denX_map (env : Env) (l : List (Value × Nat)) : (l.map fun y => y.1).map (denX env.s env.l) = l.map fun y => denX env.s env.l y.1 := by
  rw [List.map_map]; rfl

theorem evQ_ok2 {α β γ : Type} {cs : List (QC P)} {K : α → QE → Option β} {K' : α → Env → Option γ} {r : β} {r' : γ} (n0 : Nat) (base : Nat → Value) (hK : ∀ a q env, QE.of q env → (∀ j, j < n0 → env.s j = base j) → K a q = some r → K' a env = some r') :
    ∀ (T : Tr α) (n m : Nat) (q : QE) (env : Env), n0 ≤ n → (∀ j, j < n0 → env.s j = base j) → QE.of q env → evQ cs K T n m q = some r → evK (cs.map QC.c) K' T n m env = some r' := by
  intro T
  induction T with
  | lf a => intro n m q env hn hb0 h hr; exact hK a q env h hb0 hr
  | x => intro n m q env hn hb0 h hr; cases hr
  | d o xs t ih =>
    intro n m q env hn hb0 h hr
    have hr := gLs_ok (f := den env.s) (fun hh => gS_ok h hh) xs hr
    show (match sev o (xs.map (den env.s)) with | some v => _ | none => none) = _
    cases hs : sev o (xs.map (den env.s)) with
    | none => rw [hs] at hr; cases hr
    | some v =>
      rw [hs] at hr
      have hr : fD 3 v (fun v => bif Nat.blt n 65536 then evQ cs K t (Nat.succ n) m ⟨TM.set q.s n v, q.l⟩ else none) = some r := hr
      rw [fD_eq] at hr
      cases hb : Nat.blt n 65536 with
      | false => rw [hb] at hr; cases hr
      | true =>
        rw [hb, cond_true] at hr
        rw [Nat.blt_eq] at hb
        refine ih _ _ _ _ ?_ ?_ ?_ hr
        · exact Nat.le_succ_of_le hn
        · intro j hj; rw [← hb0 j hj]; exact upd_lt (by omega)
        · exact ⟨set_of h.1 n v hb, h.2⟩
  | t o xs a b iha ihb =>
    intro n m q env hn hb0 h hr
    have hr := gLs_ok (f := den env.s) (fun hh => gS_ok h hh) xs hr
    show (match sev o (xs.map (den env.s)) with | some (.bool x) => _ | _ => none) = _
    cases hs : sev o (xs.map (den env.s)) with
    | none => rw [hs] at hr; cases hr
    | some v =>
      rw [hs] at hr
      cases v with
      | bool x => cases x with
        | true => exact iha _ _ _ _ hn hb0 h hr
        | false => exact ihb _ _ _ _ hn hb0 h hr
      | _ => cases hr
  | e o xs t ih =>
    intro n m q env hn hb0 h hr
    have hr := gLs_ok (f := denX env.s env.l) (fun hh => gX_ok h hh) xs hr
    show (match lsev o (xs.map (denX env.s env.l)) with | some v => _ | none => none) = _
    cases hs : lsev o (xs.map (denX env.s env.l)) with
    | none => rw [hs] at hr; cases hr
    | some v =>
      rw [hs] at hr
      have hr : fD 6 v (fun v => bif lsc o then (bif Nat.blt n 65536 then evQ cs K t (Nat.succ n) m ⟨TM.set q.s n v, q.l⟩ else none) else (bif Nat.blt m 65536 then evQ cs K t n (Nat.succ m) ⟨q.s, TM.set q.l m v⟩ else none)) = some r := hr
      rw [fD_eq] at hr
      show (bif lsc o then _ else _) = _
      cases hc : lsc o with
      | true =>
        rw [hc, cond_true] at hr
        rw [cond_true]
        cases hb : Nat.blt n 65536 with
        | false => rw [hb] at hr; cases hr
        | true =>
          rw [hb, cond_true] at hr
          rw [Nat.blt_eq] at hb
          refine ih _ _ _ _ ?_ ?_ ?_ hr
          · exact Nat.le_succ_of_le hn
          · intro j hj; rw [← hb0 j hj]; exact upd_lt (by omega)
          · exact ⟨set_of h.1 n v hb, h.2⟩
      | false =>
        rw [hc, cond_false] at hr
        rw [cond_false]
        cases hb : Nat.blt m 65536 with
        | false => rw [hb] at hr; cases hr
        | true =>
          rw [hb, cond_true] at hr
          rw [Nat.blt_eq] at hb
          refine ih _ _ _ _ ?_ ?_ ?_ hr
          · exact hn
          · exact hb0
          · exact ⟨h.1, set_of h.2 m v hb⟩
  | u o xs a b iha ihb =>
    intro n m q env hn hb0 h hr
    have hr := gLs_ok (f := denX env.s env.l) (fun hh => gX_ok h hh) xs hr
    show (match lsev o (xs.map (denX env.s env.l)) with | some (.bool x) => _ | _ => none) = _
    cases hs : lsev o (xs.map (denX env.s env.l)) with
    | none => rw [hs] at hr; cases hr
    | some v =>
      rw [hs] at hr
      cases v with
      | bool x => cases x with
        | true => exact iha _ _ _ _ hn hb0 h hr
        | false => exact ihb _ _ _ _ hn hb0 h hr
      | _ => cases hr
  | l p ks t ih =>
    intro n m q env hn hb0 h hr
    have hr := gX_ok h hr
    have hd : denX env.s env.l (fv p) = env.l p := rfl
    rw [hd] at hr
    show (match env.l p with | .iface o (.agg ds) => _ | _ => none) = _
    generalize env.l p = v at hr
    cases v with
    | iface o x => cases x with
      | agg ds =>
        have hr : (match bindK ks (ds.toList.drop o) with
          | some (ss, ls) => fLs (fD 6) ss fun ss => fLs (fD 6) ls fun ls => bif Nat.ble (n + ss.length) 65536 && Nat.ble (m + ls.length) 65536 then evQ cs K t (Nat.add n (cntS ks)) (Nat.add m (cntL ks)) ⟨setT q.s n ss, setT q.l m ls⟩ else none
          | none => none) = some r := hr
        show (match bindK ks (ds.toList.drop o) with | some (ss, ls) => _ | none => none) = _
        cases hk : bindK ks (ds.toList.drop o) with
        | none => rw [hk] at hr; cases hr
        | some y =>
          obtain ⟨ss, ls⟩ := y
          rw [hk] at hr
          have hr : (fLs (fD 6) ss fun ss => fLs (fD 6) ls fun ls => bif Nat.ble (n + ss.length) 65536 && Nat.ble (m + ls.length) 65536 then evQ cs K t (Nat.add n (cntS ks)) (Nat.add m (cntL ks)) ⟨setT q.s n ss, setT q.l m ls⟩ else none) = some r := hr
          rw [fLs_eq (fD_eq 6), fLs_eq (fD_eq 6)] at hr
          cases hb : Nat.ble (n + ss.length) 65536 && Nat.ble (m + ls.length) 65536 with
          | false => rw [hb] at hr; cases hr
          | true =>
            rw [hb, cond_true] at hr
            rw [Bool.and_eq_true] at hb
            refine ih _ _ _ _ ?_ ?_ ?_ hr
            · exact Nat.le_trans hn (Nat.le_add_right _ _)
            · intro j hj; rw [← hb0 j hj]; exact updL_lt (by omega)
            · exact ⟨setT_of ss h.1 n (Nat.le_of_ble_eq_true hb.1), setT_of ls h.2 m (Nat.le_of_ble_eq_true hb.2)⟩
      | _ => cases hr
    | _ => cases hr
  | c i a t ih =>
    intro n m q env hn hb0 h hr
    have hr : (match cs[i]? with
      | some c => fLs (gS q) a.ss fun ss => fLs (gX q) (a.ls.map fun y => y.1) fun ls => match c.G ss ls with
        | some (ss, ls) => bif Nat.ble (n + ss.length) 65536 && Nat.ble (m + ls.length) 65536 then evQ cs K t (Nat.add n c.ns) (Nat.add m c.nl) ⟨setT q.s n ss, setT q.l m ls⟩ else none
        | none => none
      | none => none) = some r := hr
    cases hc : cs[i]? with
    | none => rw [hc] at hr; cases hr
    | some c =>
      rw [hc] at hr
      have hr := gLs_ok (f := den env.s) (fun hh => gS_ok h hh) a.ss hr
      have hr := gLs_ok (f := denX env.s env.l) (fun hh => gX_ok h hh) _ hr
      rw [denX_map] at hr
      have hc' : (cs.map QC.c)[i]? = some c.c := by rw [List.getElem?_map, hc]; rfl
      cases hg : c.G (a.ss.map (den env.s)) (a.ls.map fun y => denX env.s env.l y.1) with
      | none => rw [hg] at hr; cases hr
      | some y =>
        obtain ⟨ss, ls⟩ := y
        rw [hg] at hr
        have hr : (bif Nat.ble (n + ss.length) 65536 && Nat.ble (m + ls.length) 65536 then evQ cs K t (Nat.add n c.ns) (Nat.add m c.nl) ⟨setT q.s n ss, setT q.l m ls⟩ else none) = some r := hr
        rw [evK_c ss ls hc' (c.ok _ _ _ hg)]
        cases hb : Nat.ble (n + ss.length) 65536 && Nat.ble (m + ls.length) 65536 with
        | false => rw [hb] at hr; cases hr
        | true =>
          rw [hb, cond_true] at hr
          rw [Bool.and_eq_true] at hb
          rw [← c.ns_eq, ← c.nl_eq]
          refine ih _ _ _ _ ?_ ?_ ?_ hr
          · exact Nat.le_trans hn (Nat.le_add_right _ _)
          · intro j hj; rw [← hb0 j hj]; exact updL_lt (by omega)
          · exact ⟨setT_of ss h.1 n (Nat.le_of_ble_eq_true hb.1), setT_of ls h.2 m (Nat.le_of_ble_eq_true hb.2)⟩
  | q => intro n m q env hn hb0 h hr; cases hr
  | o => intro n m q env hn hb0 h hr; cases hr

theorem evQ_ok {α β : Type} {cs : List (QC P)} {K : α → QE → Option β} {K' : α → Env → Option β} (hK : ∀ a q env r, QE.of q env → K a q = some r → K' a env = some r) (T : Tr α) (n m : Nat) (q : QE) (env : Env) (r : β) (h : QE.of q env) (hr : evQ cs K T n m q = some r) : evK (cs.map QC.c) K' T n m env = some r :=
  evQ_ok2 0 (fun _ => .bool true) (fun a q env hq _ hr => hK a q env r hq hr) T n m q env (Nat.zero_le _) (fun j hj => absurd hj (Nat.not_lt_zero _)) h hr

noncomputable def runQ (cs : List (QC P)) (F : CFn) : Nat → Nat → List Value → List Value → Option (List Value × List Value)
  | 0, _, _, _ => none
  | k + 1, i, ss, ls => match F.cuts[i]? with
    | none => none
    | some c => bif Nat.ble ss.length 65536 && Nat.ble ls.length 65536 then evQ cs (fun (l : Lf) q => match l with
        | .ret a => fLs (gS q) a.ss fun ss => fLs (gX q) (a.ls.map fun y => y.1) fun ls => some (ss, ls)
        | .go j a => fLs (gS q) a.ss fun ss => fLs (gX q) (a.ls.map fun y => y.1) fun ls => runQ cs F k j ss ls) c.T c.ns c.nl ⟨setT (TM.lf none) 0 ss, setT (TM.lf none) 0 ls⟩ else none

theorem setT_get : ∀ (l : List Value) (t : TM Value) (n : Nat), n + l.length ≤ 65536 → ∀ j v, j < 65536 → (setT t n l).get j = some v → (n ≤ j ∧ l[j - n]? = some v) ∨ t.get j = some v := by
  intro l
  induction l with
  | nil => intro t n _ j v _ hg; exact .inr hg
  | cons x r ih =>
    intro t n hn j v hj hg
    have hn' : n + (r.length + 1) ≤ 65536 := hn
    rcases ih (TM.set t n x) (n + 1) (by omega) j v hj hg with ⟨h1, h2⟩ | h1
    · refine .inl ⟨by omega, ?_⟩
      rw [show j - n = (j - (n + 1)) + 1 by omega]
      exact h2
    · rw [TM.get_set, Nat.mod_eq_of_lt (show n < 65536 by omega), Nat.mod_eq_of_lt hj] at h1
      by_cases hnj : n = j
      · subst hnj
        rw [if_pos rfl] at h1
        cases h1
        exact .inl ⟨Nat.le_refl _, by rw [Nat.sub_self]; rfl⟩
      · rw [if_neg hnj] at h1
        exact .inr h1
theorem nthV_none_of {ss : List Value} {d : Value} : ∀ j v, j < 65536 → (setT (TM.lf none) 0 ss).get j = some v → ss.length ≤ 65536 → nthV ss d j = v := by
  intro j v hj hg hl
  rcases setT_get ss _ 0 (by omega) j v hj hg with ⟨_, h2⟩ | h1
  · unfold nthV
    rw [Nat.sub_zero] at h2
    rw [h2]
  · rw [TM.get_lf] at h1; cases h1

theorem QE_low {l : List Value} {e : Nat → Value} (h : ∀ j, j < l.length → e j = nthV l (.int .i64 0) j) (hl : l.length ≤ 65536) : ∀ j v, j < 65536 → (setT (TM.lf none) 0 l).get j = some v → e j = v := by
  intro j v hj hg
  rcases setT_get l _ 0 (by omega) j v hj hg with ⟨_, h2⟩ | h1
  · rw [Nat.sub_zero] at h2
    rw [h j (List.getElem?_eq_some_iff.1 h2).1]
    exact nthV_at h2
  · rw [TM.get_lf] at h1; cases h1

theorem runQ_ok {cs : List (QC P)} {F : CFn} : ∀ (k i : Nat) (ss ls : List Value) (r : List Value × List Value), runQ cs F k i ss ls = some r → CFn.run (cs.map QC.c) F k i ⟨nthV ss (.int .i64 0), nthV ls (.slice none 0 0)⟩ = some r := by
  intro k
  induction k with
  | zero => intro i ss ls r h; cases h
  | succ k ih =>
    intro i ss ls r h
    have h : (match F.cuts[i]? with
      | none => none
      | some c => bif Nat.ble ss.length 65536 && Nat.ble ls.length 65536 then evQ cs (fun (l : Lf) q => match l with
        | .ret a => fLs (gS q) a.ss fun ss => fLs (gX q) (a.ls.map fun y => y.1) fun ls => some (ss, ls)
        | .go j a => fLs (gS q) a.ss fun ss => fLs (gX q) (a.ls.map fun y => y.1) fun ls => runQ cs F k j ss ls) c.T c.ns c.nl ⟨setT (TM.lf none) 0 ss, setT (TM.lf none) 0 ls⟩ else none) = some r := h
    cases hc : F.cuts[i]? with
    | none => rw [hc] at h; cases h
    | some c =>
      rw [hc] at h
      rw [CFn.step c hc]
      cases hb : Nat.ble ss.length 65536 && Nat.ble ls.length 65536 with
      | false =>
        have h : (bif Nat.ble ss.length 65536 && Nat.ble ls.length 65536 then _ else none) = some r := h
        rw [hb] at h; cases h
      | true =>
        have h : (bif Nat.ble ss.length 65536 && Nat.ble ls.length 65536 then _ else none) = some r := h
        rw [hb, cond_true] at h
        rw [Bool.and_eq_true] at hb
        refine evQ_ok ?_ c.T c.ns c.nl _ _ r ⟨fun j v hj hg => nthV_none_of j v hj hg (Nat.le_of_ble_eq_true hb.1), fun j v hj hg => nthV_none_of j v hj hg (Nat.le_of_ble_eq_true hb.2)⟩ h
        intro a q env r hq hr
        cases a with
        | ret a =>
          have hr := gLs_ok (f := den env.s) (fun hh => gS_ok hq hh) a.ss hr
          have hr := gLs_ok (f := denX env.s env.l) (fun hh => gX_ok hq hh) _ hr
          rw [denX_map] at hr
          exact hr
        | go j a =>
          have hr := gLs_ok (f := den env.s) (fun hh => gS_ok hq hh) a.ss hr
          have hr := gLs_ok (f := denX env.s env.l) (fun hh => gX_ok hq hh) _ hr
          rw [denX_map] at hr
          exact ih j _ _ r hr

theorem runQ_F {cs : List (QC P)} {F : CFn} (k : Nat) (hk : k ≤ manyK) {ss ls : List Value} {r : List Value × List Value} (h : runQ cs F k 0 ss ls = some r) : F.F (cs.map QC.c) ss ls = some r :=
  CFn.begin k hk (runQ_ok k 0 ss ls r h)

/-- how often a loop may be gone through -/
def turnsQ : Nat := 100
theorem turnsQ_le : turnsQ ≤ manyK := by decide

/-- a contract's quick function -/
noncomputable def qcOf (c : Ctr P) (cs : List (QC P)) (F : CFn) (ns nl : Nat) (h1 : ns = c.post.ns) (h2 : nl = c.post.nl) (h : ∀ ss ls, c.F ss ls = F.F (cs.map QC.c) ss ls) : QC P :=
  ⟨c, fun ss ls => runQ cs F turnsQ 0 ss ls, ns, nl, h1, h2, fun ss ls r hr => (h ss ls).trans (runQ_F turnsQ turnsQ_le hr)⟩
/-- of one that is told flat -/
noncomputable def qcFlat (c : Ctr P) (cs : List (QC P)) (F : CFn) (ns nl : Nat) (h1 : ns = c.post.ns) (h2 : nl = c.post.nl) (h : ∀ ss ls, c.F ss ls = flatR (F.F (cs.map QC.c) ss ls)) : QC P :=
  ⟨c, fun ss ls => flatR (runQ cs F turnsQ 0 ss ls), ns, nl, h1, h2, fun ss ls r hr => by
    obtain ⟨h3, h4⟩ := flatR_some hr
    rw [h, runQ_F turnsQ turnsQ_le h3]
    obtain ⟨a, b⟩ := r
    show (bif b.all flatV then some (a, b) else none) = _
    rw [show b.all flatV = true from h4]; rfl⟩
/-- where a way without loops ends -/
noncomputable def KL (l : Lf) (q : QE) : Option (List Value × List Value) := match l with
  | .ret a => fLs (gS q) a.ss fun ss => fLs (gX q) (a.ls.map fun y => y.1) fun ls => some (ss, ls)
  | .go _ _ => none
theorem KL_ok {cs : List (Ctr P)} {F : CFn} {k : Nat} (a : Lf) (q : QE) (env : Env) (r : List Value × List Value) (hq : QE.of q env) (hr : KL a q = some r) : F.K cs k a env = some r := by
  cases a with
  | ret a =>
    have hr := gLs_ok (f := den env.s) (fun hh => gS_ok hq hh) a.ss hr
    have hr := gLs_ok (f := denX env.s env.l) (fun hh => gX_ok hq hh) _ hr
    rw [denX_map] at hr
    exact hr
  | go => cases hr
def Tr.graft {α : Type} (R : Tr α) : Tr Unit → Tr α
  | .c i s T2 => .c i s (Tr.graft R T2)
  | .lf _ => R
  | _ => .x
def Tr.chain : Tr Unit → Bool
  | .c _ _ T2 => Tr.chain T2
  | .lf _ => true
  | _ => false
def Tr.endN (cs : List (Ctr P)) : Tr Unit → Nat → Nat
  | .c i _ T2, n => match cs[i]? with
    | some c2 => Tr.endN cs T2 (Nat.add n c2.post.ns)
    | none => n
  | _, n => n
def Tr.endM (cs : List (Ctr P)) : Tr Unit → Nat → Nat
  | .c i _ T2, n => match cs[i]? with
    | some c2 => Tr.endM cs T2 (Nat.add n c2.post.nl)
    | none => n
  | _, n => n
theorem graft_eq {α β : Type} {cs : List (Ctr P)} {K : α → Env → Option β} {R : Tr α} : ∀ (T : Tr Unit) (n m n' m' : Nat) (env : Env), Tr.chain T = true → Tr.endN cs T n = n' → Tr.endM cs T m = m' → evK cs K (Tr.graft R T) n m env = evK cs (fun _ e => evK cs K R n' m' e) T n m env := by
  intro T
  induction T with
  | lf a => intro n m n' m' env _ h1 h2; cases h1; cases h2; rfl
  | c i s t ih =>
    intro n m n' m' env h h1 h2
    show evK cs K (.c i s (Tr.graft R t)) n m env = _
    simp only [evK]
    simp only [Tr.endN] at h1
    simp only [Tr.endM] at h2
    cases hc : cs[i]? with
    | none => rfl
    | some c =>
      rw [hc] at h1 h2
      simp only
      cases c.F (s.ss.map (den env.s)) (s.ls.map fun y => denX env.s env.l y.1) with
      | none => rfl
      | some y => obtain ⟨ss, ls⟩ := y; exact ih _ _ _ _ _ h h1 h2
  | _ => intro n m n' m' env h; cases h
theorem evK_c_mono {α β : Type} {cs : List (Ctr P)} {K : α → Env → Option β} {i : Nat} {c : Ctr P} {s : Sub} {a b : Tr α} {n m : Nat} {env : Env} {r : β} (hc : cs[i]? = some c) (h : ∀ ss ls, evK cs K a (Nat.add n c.post.ns) (Nat.add m c.post.nl) ⟨updL env.s n ss, updL env.l m ls⟩ = some r → evK cs K b (Nat.add n c.post.ns) (Nat.add m c.post.nl) ⟨updL env.s n ss, updL env.l m ls⟩ = some r) (ha : evK cs K (.c i s a) n m env = some r) : evK cs K (.c i s b) n m env = some r := by
  simp only [evK, hc] at ha ⊢
  cases hf : c.F (s.ss.map (den env.s)) (s.ls.map fun y => denX env.s env.l y.1) with
  | none => rw [hf] at ha; cases ha
  | some y => obtain ⟨ss, ls⟩ := y; rw [hf] at ha; exact h ss ls ha
/-- one cut point's check -/
noncomputable def cutU (cs : List (Ctr P)) (X : ExtT) (pr : PrT) (F : CFn) (u : Nat → Value) (c : Cut) : Bool := match P.funcs[F.g]? with
  | some fn => match fn.body with
    | some body => cutOK fn.ntmps F.pre.mem.length c && chk (cs.map Ctr.cd) (leafOK P X pr F fn.ntmps fn.results.toList body c u) c.T ⟨c.ns, c.nl, [], [], [], []⟩
    | none => false
  | none => false
theorem allC {α : Type} {f : α → Bool} {a : α} {l : List α} (h : f a = true) (h2 : l.all f = true) : (a :: l).all f = true := by
  rw [List.all_cons, h, h2]; rfl
theorem okU_of {cs : List (Ctr P)} {X : ExtT} {pr : PrT} {F : CFn} {u : Nat → Value} (h0 : F.cuts.isEmpty = false) (h : F.cuts.all (cutU cs X pr F u) = true) : F.okU cs X pr u = true := by
  unfold CFn.okU
  cases hc : F.cuts with
  | nil => rw [hc] at h0; cases h0
  | cons a l =>
    rw [hc] at h
    cases hf : P.funcs[F.g]? with
    | none =>
      rw [List.all_cons] at h
      have : cutU cs X pr F u a = false := by unfold cutU; rw [hf]
      rw [this] at h; cases h
    | some fn =>
      cases hb : fn.body with
      | none =>
        rw [List.all_cons] at h
        have : cutU cs X pr F u a = false := by unfold cutU; rw [hf]; simp only [hb]
        rw [this] at h; cases h
      | some body =>
        simp only [hb]
        refine Eq.trans ?_ h
        congr 1
        funext c
        unfold cutU
        rw [hf]
        simp only [hb]
end Go.Eng
/- Ways told by names: what symbols stand for is known, or has a name; what calls and some questions answer is known by names. -/
namespace Go.Eng
open Go.RowKit
variable {P : Program}

def notNm : Value → Bool
  | .complex .. => false
  | .float .. => false
  | _ => true
theorem denX_notNm {s l : Nat → Value} {v : Value} (h : notNm v = true) : denX s l v = v := by
  cases v <;> first | rfl | cases h
theorem denXs_notNm {s l : Nat → Value} : ∀ {vs : List Value}, vs.all notNm = true → vs.map (denX s l) = vs
  | [], _ => rfl
  | v :: r, h => by
    rw [List.all_cons, Bool.and_eq_true] at h
    rw [List.map_cons, denX_notNm h.1, denXs_notNm h.2]
theorem denX_scY {s l : Nat → Value} {v : Value} (h : isScP v = true) : denX s l v = den s v := by
  cases v <;> first | rfl | cases h
theorem denXs_sc {s l : Nat → Value} : ∀ {vs : List Value}, vs.all isScP = true → vs.map (denX s l) = vs.map (den s)
  | [], _ => rfl
  | v :: r, h => by
    rw [List.all_cons, Bool.and_eq_true] at h
    rw [List.map_cons, List.map_cons, denX_scY h.1, denXs_sc h.2]

/-- what symbols stand for, by names -/
def QE.ofY (val lval : Nat → Value) (q : QE) (env : Env) : Prop := (∀ j v, j < 65536 → q.s.get j = some v → env.s j = denX val lval v) ∧ ∀ j v, j < 65536 → q.l.get j = some v → env.l j = denX val lval v

section
variable {val lval : Nat → Value}
theorem gS_okY {β : Type} {q : QE} {env : Env} (h : q.ofY val lval env) {v : Value} {k : Value → Option β} {r : β} (hr : gS q v k = some r) : ∃ w, k w = some r ∧ den env.s v = denX val lval w := by
  unfold gS at hr
  split at hr
  · rename_i n _
    cases hb : Nat.blt n 65536 with
    | false => rw [hb] at hr; cases hr
    | true =>
      rw [hb, cond_true] at hr
      have hn : n < 65536 := by rw [Nat.blt_eq] at hb; exact hb
      cases hg : q.s.get n with
      | none => rw [hg] at hr; cases hr
      | some w => rw [hg] at hr; exact ⟨w, hr, h.1 n w hn hg⟩
  · cases hr
  · rename_i h1 h2
    rw [fD_eq] at hr
    refine ⟨v, hr, ?_⟩
    cases v <;> first | rfl | exact absurd rfl (h1 _ _ _) | exact absurd rfl (h2 _ _)
theorem gX_okY {β : Type} {q : QE} {env : Env} (h : q.ofY val lval env) {v : Value} {k : Value → Option β} {r : β} (hr : gX q v k = some r) : ∃ w, k w = some r ∧ denX env.s env.l v = denX val lval w := by
  unfold gX at hr
  split at hr
  · rename_i n _
    cases hb : Nat.blt n 65536 with
    | false => rw [hb] at hr; cases hr
    | true =>
      rw [hb, cond_true] at hr
      have hn : n < 65536 := by rw [Nat.blt_eq] at hb; exact hb
      cases hg : q.s.get n with
      | none => rw [hg] at hr; cases hr
      | some w => rw [hg] at hr; exact ⟨w, hr, h.1 n w hn hg⟩
  · rename_i n
    cases hb : Nat.blt n 65536 with
    | false => rw [hb] at hr; cases hr
    | true =>
      rw [hb, cond_true] at hr
      have hn : n < 65536 := by rw [Nat.blt_eq] at hb; exact hb
      cases hg : q.l.get n with
      | none => rw [hg] at hr; cases hr
      | some w => rw [hg] at hr; exact ⟨w, hr, h.2 n w hn hg⟩
  · rename_i h1 h2
    rw [fD_eq] at hr
    refine ⟨v, hr, ?_⟩
    cases v <;> first | rfl | exact absurd rfl (h1 _ _ _) | exact absurd rfl (h2 _ _)
theorem gLs_okY {β : Type} {g : Value → (Value → Option β) → Option β} {f f' : Value → Value} (h : ∀ {v k} {r : β}, g v k = some r → ∃ w, k w = some r ∧ f v = f' w) : ∀ (l : List Value) {k : List Value → Option β} {r : β}, fLs g l k = some r → ∃ ws, k ws = some r ∧ l.map f = ws.map f' := by
  intro l
  induction l with
  | nil => intro k r hr; exact ⟨[], hr, rfl⟩
  | cons x t ih =>
    intro k r hr
    obtain ⟨w, h1, h2⟩ := h hr
    obtain ⟨ws, h3, h4⟩ := ih h1
    exact ⟨w :: ws, h3, by rw [List.map_cons, List.map_cons, h2, h4]⟩

theorem set_ofY {t : TM Value} {e : Nat → Value} (h : ∀ j v, j < 65536 → t.get j = some v → e j = denX val lval v) (n : Nat) (v : Value) (hn : n < 65536) : ∀ j w, j < 65536 → (TM.set t n v).get j = some w → upd e n (denX val lval v) j = denX val lval w := by
  intro j w hj hg
  rw [TM.get_set, Nat.mod_eq_of_lt hn, Nat.mod_eq_of_lt hj] at hg
  unfold upd
  by_cases hnj : n = j
  · subst hnj
    rw [if_pos rfl] at hg
    cases hg
    rw [show Nat.beq n n = true from Nat.beq_refl n]; rfl
  · rw [if_neg hnj] at hg
    have : Nat.beq j n = false := by
      cases hb : Nat.beq j n with
      | false => rfl
      | true => exact absurd (Nat.eq_of_beq_eq_true hb).symm hnj
    rw [this]
    exact h j w hj hg
theorem setT_ofY : ∀ (l : List Value) {t : TM Value} {e : Nat → Value} (_ : ∀ j v, j < 65536 → t.get j = some v → e j = denX val lval v) (n : Nat) (_ : n + l.length ≤ 65536), ∀ j w, j < 65536 → (setT t n l).get j = some w → updL e n (l.map (denX val lval)) j = denX val lval w := by
  intro l
  induction l with
  | nil => intro t e h n _ j w hj hg; exact h j w hj hg
  | cons v r ih =>
    intro t e h n hn j w hj hg
    have hn' : n + (r.length + 1) ≤ 65536 := hn
    exact ih (set_ofY h n v (by omega)) (n + 1) (by omega) j w hj hg
end

/-- a call of which the answer is known by names -/
structure TyC where
  i : Nat
  ar : List Value
  ls : List Value
  rs : List Value
  ll : List Value
  ns : Nat
  nl : Nat
def findY (i : Nat) (ss ls : List Value) : List TyC → Option TyC
  | [] => none
  | c :: r => bif Nat.beq c.i i && (veqL (veq 7) c.ar ss && veqL (veq 7) c.ls ls) then some c else findY i ss ls r
theorem findY_mem {i : Nat} {ss ls : List Value} {c : TyC} : ∀ {l : List TyC}, findY i ss ls l = some c → c ∈ l ∧ c.i = i ∧ c.ar = ss ∧ c.ls = ls
  | [], h => by cases h
  | d :: r, h => by
    unfold findY at h
    cases hb : Nat.beq d.i i && (veqL (veq 7) d.ar ss && veqL (veq 7) d.ls ls) with
    | true =>
      rw [hb] at h; cases h
      rw [Bool.and_eq_true, Bool.and_eq_true] at hb
      exact ⟨List.mem_cons_self, Nat.eq_of_beq_eq_true hb.1, veqL_eq (veq_eq 7) hb.2.1, veqL_eq (veq_eq 7) hb.2.2⟩
    | false =>
      rw [hb] at h
      obtain ⟨h1, h2⟩ := findY_mem h
      exact ⟨List.mem_cons_of_mem _ h1, h2⟩

/-- what is known by names -/
structure TY where
  cs : List TyC
  tab : List SRule
  ltab : List LRule
structure TY.ok (val lval : Nat → Value) (ds : List (Ctr P)) (t : TY) : Prop where
  c : ∀ c ∈ t.cs, ∃ k, ds[c.i]? = some k ∧ k.F (c.ar.map (denX val lval)) (c.ls.map (denX val lval)) = some (c.rs.map (denX val lval), c.ll.map (denX val lval)) ∧ c.ns = k.post.ns ∧ c.nl = k.post.nl
  s : ∀ r ∈ t.tab, r.good val
  l : ∀ r ∈ t.ltab, r.good val lval

def nmK (v : Value) : Option Value := bif notNm v then some v else none
def sevY (tab : List SRule) (o : SOp) (vs : List Value) : Option Value := bif vs.all notNm then (match sev o vs with
  | some v => nmK v
  | none => none) else slk o vs tab
def lsevY (ltab : List LRule) (o : LOp) (vs : List Value) : Option Value := bif vs.all notNm then (match lsev o vs with
  | some v => nmK v
  | none => none) else llk o vs ltab
theorem nmK_some {v w : Value} (h : nmK v = some w) : v = w ∧ notNm w = true := by
  unfold nmK at h
  cases hb : notNm v with
  | true => rw [hb] at h; cases h; exact ⟨rfl, hb⟩
  | false => rw [hb] at h; cases h
theorem sevY_ok {val lval : Nat → Value} {tab : List SRule} (ht : ∀ r ∈ tab, r.good val) {o : SOp} {vs : List Value} {v : Value} (h : sevY tab o vs = some v) : sev o (vs.map (denX val lval)) = some (denX val lval v) := by
  unfold sevY at h
  cases hb : vs.all notNm with
  | true =>
    rw [hb, cond_true] at h
    split at h
    case h_2 => cases h
    rename_i w hw
    obtain ⟨rfl, h2⟩ := nmK_some h
    rw [denXs_notNm hb, denX_notNm h2, hw]
  | false =>
    rw [hb, cond_false] at h
    obtain ⟨h1, h2, h3⟩ := slk_spec ht h
    rw [denXs_sc h1, denX_scY h2]
    exact h3
theorem lsevY_ok {val lval : Nat → Value} {ltab : List LRule} (ht : ∀ r ∈ ltab, r.good val lval) {o : LOp} {vs : List Value} {v : Value} (h : lsevY ltab o vs = some v) : lsev o (vs.map (denX val lval)) = some (denX val lval v) := by
  unfold lsevY at h
  cases hb : vs.all notNm with
  | true =>
    rw [hb, cond_true] at h
    split at h
    case h_2 => cases h
    rename_i w hw
    obtain ⟨rfl, h2⟩ := nmK_some h
    rw [denXs_notNm hb, denX_notNm h2, hw]
  | false =>
    rw [hb, cond_false] at h
    exact (llk_spec ht h).2.2

noncomputable def evY {α β : Type} (t : TY) (K : α → QE → Option β) : Tr α → Nat → Nat → QE → Option β
  | .lf a, _, _, q => K a q
  | .d o xs T, n, m, q => fLs (gS q) xs fun vs => match sevY t.tab o vs with
    | some v => fD 3 v fun v => bif Nat.blt n 65536 then evY t K T (Nat.succ n) m ⟨TM.set q.s n v, q.l⟩ else none
    | none => none
  | .t o xs a b, n, m, q => fLs (gS q) xs fun vs => match sevY t.tab o vs with
    | some (.bool x) => bif x then evY t K a n m q else evY t K b n m q
    | _ => none
  | .e o xs T, n, m, q => fLs (gX q) xs fun vs => match lsevY t.ltab o vs with
    | some v => fD 6 v fun v => bif lsc o then (bif Nat.blt n 65536 then evY t K T (Nat.succ n) m ⟨TM.set q.s n v, q.l⟩ else none) else (bif Nat.blt m 65536 then evY t K T n (Nat.succ m) ⟨q.s, TM.set q.l m v⟩ else none)
    | none => none
  | .u o xs a b, n, m, q => fLs (gX q) xs fun vs => match lsevY t.ltab o vs with
    | some (.bool x) => bif x then evY t K a n m q else evY t K b n m q
    | _ => none
  | .c i a T, n, m, q => fLs (gS q) a.ss fun ss => fLs (gX q) (a.ls.map fun y => y.1) fun ls => match findY i ss ls t.cs with
    | some c => bif Nat.ble (n + c.rs.length) 65536 && Nat.ble (m + c.ll.length) 65536 then evY t K T (Nat.add n c.ns) (Nat.add m c.nl) ⟨setT q.s n c.rs, setT q.l m c.ll⟩ else none
    | none => none
  | _, _, _, _ => none

theorem evY_ok {α β γ : Type} {val lval : Nat → Value} {ds : List (Ctr P)} {t : TY} (ht : t.ok val lval ds) {K : α → QE → Option β} {K' : α → Env → Option γ} {r : β} {r' : γ} (hK : ∀ a q env, QE.ofY val lval q env → K a q = some r → K' a env = some r') :
    ∀ (T : Tr α) (n m : Nat) (q : QE) (env : Env), QE.ofY val lval q env → evY t K T n m q = some r → evK ds K' T n m env = some r' := by
  intro T
  induction T with
  | lf a => intro n m q env h hr; exact hK a q env h hr
  | x => intro n m q env h hr; cases hr
  | d o xs T ih =>
    intro n m q env h hr
    obtain ⟨vs, hr, e⟩ := gLs_okY (f := den env.s) (f' := denX val lval) (fun hh => gS_okY h hh) xs hr
    show (match sev o (xs.map (den env.s)) with | some v => _ | none => none) = _
    cases hs : sevY t.tab o vs with
    | none => rw [hs] at hr; cases hr
    | some v =>
      rw [hs] at hr
      rw [e, sevY_ok ht.s hs]
      have hr : fD 3 v (fun v => bif Nat.blt n 65536 then evY t K T (Nat.succ n) m ⟨TM.set q.s n v, q.l⟩ else none) = some r := hr
      rw [fD_eq] at hr
      cases hb : Nat.blt n 65536 with
      | false => rw [hb] at hr; cases hr
      | true =>
        rw [hb, cond_true] at hr
        rw [Nat.blt_eq] at hb
        refine ih _ _ _ _ ?_ hr
        exact ⟨set_ofY h.1 n v hb, h.2⟩
  | t o xs a b iha ihb =>
    intro n m q env h hr
    obtain ⟨vs, hr, e⟩ := gLs_okY (f := den env.s) (f' := denX val lval) (fun hh => gS_okY h hh) xs hr
    show (match sev o (xs.map (den env.s)) with | some (.bool x) => _ | _ => none) = _
    cases hs : sevY t.tab o vs with
    | none => rw [hs] at hr; cases hr
    | some v =>
      rw [hs] at hr
      rw [e, sevY_ok ht.s hs]
      cases v with
      | bool x => cases x with
        | true => exact iha _ _ _ _ h hr
        | false => exact ihb _ _ _ _ h hr
      | _ => cases hr
  | e o xs T ih =>
    intro n m q env h hr
    obtain ⟨vs, hr, e⟩ := gLs_okY (f := denX env.s env.l) (f' := denX val lval) (fun hh => gX_okY h hh) xs hr
    show (match lsev o (xs.map (denX env.s env.l)) with | some v => _ | none => none) = _
    cases hs : lsevY t.ltab o vs with
    | none => rw [hs] at hr; cases hr
    | some v =>
      rw [hs] at hr
      rw [e, lsevY_ok ht.l hs]
      have hr : fD 6 v (fun v => bif lsc o then (bif Nat.blt n 65536 then evY t K T (Nat.succ n) m ⟨TM.set q.s n v, q.l⟩ else none) else (bif Nat.blt m 65536 then evY t K T n (Nat.succ m) ⟨q.s, TM.set q.l m v⟩ else none)) = some r := hr
      rw [fD_eq] at hr
      show (bif lsc o then _ else _) = _
      cases hc : lsc o with
      | true =>
        rw [hc, cond_true] at hr
        rw [cond_true]
        cases hb : Nat.blt n 65536 with
        | false => rw [hb] at hr; cases hr
        | true =>
          rw [hb, cond_true] at hr
          rw [Nat.blt_eq] at hb
          refine ih _ _ _ _ ?_ hr
          exact ⟨set_ofY h.1 n v hb, h.2⟩
      | false =>
        rw [hc, cond_false] at hr
        rw [cond_false]
        cases hb : Nat.blt m 65536 with
        | false => rw [hb] at hr; cases hr
        | true =>
          rw [hb, cond_true] at hr
          rw [Nat.blt_eq] at hb
          refine ih _ _ _ _ ?_ hr
          exact ⟨h.1, set_ofY h.2 m v hb⟩
  | u o xs a b iha ihb =>
    intro n m q env h hr
    obtain ⟨vs, hr, e⟩ := gLs_okY (f := denX env.s env.l) (f' := denX val lval) (fun hh => gX_okY h hh) xs hr
    show (match lsev o (xs.map (denX env.s env.l)) with | some (.bool x) => _ | _ => none) = _
    cases hs : lsevY t.ltab o vs with
    | none => rw [hs] at hr; cases hr
    | some v =>
      rw [hs] at hr
      rw [e, lsevY_ok ht.l hs]
      cases v with
      | bool x => cases x with
        | true => exact iha _ _ _ _ h hr
        | false => exact ihb _ _ _ _ h hr
      | _ => cases hr
  | c i a T ih =>
    intro n m q env h hr
    have hr : (fLs (gS q) a.ss fun ss => fLs (gX q) (a.ls.map fun y => y.1) fun ls => match findY i ss ls t.cs with
      | some c => bif Nat.ble (n + c.rs.length) 65536 && Nat.ble (m + c.ll.length) 65536 then evY t K T (Nat.add n c.ns) (Nat.add m c.nl) ⟨setT q.s n c.rs, setT q.l m c.ll⟩ else none
      | none => none) = some r := hr
    obtain ⟨ss, hr, e1⟩ := gLs_okY (f := den env.s) (f' := denX val lval) (fun hh => gS_okY h hh) a.ss hr
    obtain ⟨ls, hr, e2⟩ := gLs_okY (f := denX env.s env.l) (f' := denX val lval) (fun hh => gX_okY h hh) _ hr
    rw [denX_map] at e2
    cases hf : findY i ss ls t.cs with
    | none => rw [hf] at hr; cases hr
    | some c =>
      rw [hf] at hr
      obtain ⟨hm, hi, ha, hl⟩ := findY_mem hf
      obtain ⟨k, hk, hF, hn, hl2⟩ := ht.c c hm
      rw [hi] at hk
      have hr : (bif Nat.ble (n + c.rs.length) 65536 && Nat.ble (m + c.ll.length) 65536 then evY t K T (Nat.add n c.ns) (Nat.add m c.nl) ⟨setT q.s n c.rs, setT q.l m c.ll⟩ else none) = some r := hr
      rw [evK_c (c.rs.map (denX val lval)) (c.ll.map (denX val lval)) hk (by rw [e1, e2, ← ha, ← hl]; exact hF)]
      cases hb : Nat.ble (n + c.rs.length) 65536 && Nat.ble (m + c.ll.length) 65536 with
      | false => rw [hb] at hr; cases hr
      | true =>
        rw [hb, cond_true] at hr
        rw [Bool.and_eq_true] at hb
        rw [← hn, ← hl2]
        refine ih _ _ _ _ ?_ hr
        exact ⟨setT_ofY c.rs h.1 n (Nat.le_of_ble_eq_true hb.1), setT_ofY c.ll h.2 m (Nat.le_of_ble_eq_true hb.2)⟩
  | l => intro n m q env h hr; cases hr
  | q => intro n m q env h hr; cases hr
  | o => intro n m q env h hr; cases hr

/-- the end of a way, by names: 0 results, j + 1 the cut point j -/
noncomputable def KY (l : Lf) (q : QE) : Option (Nat × List Value × List Value) := match l with
  | .ret a => fLs (gS q) a.ss fun ss => fLs (gX q) (a.ls.map fun y => y.1) fun ls => some (0, ss, ls)
  | .go j a => fLs (gS q) a.ss fun ss => fLs (gX q) (a.ls.map fun y => y.1) fun ls => some (Nat.succ j, ss, ls)

/-- what symbols stand for at a cut point, by names -/
def envY (val lval : Nat → Value) (ss ls : List Value) : Env := ⟨nthV (ss.map (denX val lval)) (.int .i64 0), nthV (ls.map (denX val lval)) (.slice none 0 0)⟩
noncomputable def qeY (ss ls : List Value) : QE := ⟨setT (TM.lf none) 0 ss, setT (TM.lf none) 0 ls⟩
theorem nthV_setT {val lval : Nat → Value} {ss : List Value} {d : Value} (hl : ss.length ≤ 65536) : ∀ j v, j < 65536 → (setT (TM.lf none) 0 ss).get j = some v → nthV (ss.map (denX val lval)) d j = denX val lval v := by
  intro j v hj hg
  rcases setT_get ss _ 0 (by omega) j v hj hg with ⟨_, h⟩ | h
  · rw [Nat.sub_zero] at h
    refine nthV_at ?_
    rw [List.getElem?_map, h]; rfl
  · rw [TM.get_lf] at h; cases h
theorem qeY_of {val lval : Nat → Value} {ss ls : List Value} (h1 : ss.length ≤ 65536) (h2 : ls.length ≤ 65536) : (qeY ss ls).ofY val lval (envY val lval ss ls) := ⟨nthV_setT h1, nthV_setT h2⟩

theorem KY_ret {val lval : Nat → Value} {ds : List (Ctr P)} {F : CFn} {k : Nat} {l : Lf} {q : QE} {env : Env} {ss ls : List Value} (h : q.ofY val lval env) (hr : KY l q = some (0, ss, ls)) : F.K ds k l env = some (ss.map (denX val lval), ls.map (denX val lval)) := by
  cases l with
  | ret a =>
    have hr : (fLs (gS q) a.ss fun ss => fLs (gX q) (a.ls.map fun y => y.1) fun ls => some (0, ss, ls)) = some (0, ss, ls) := hr
    obtain ⟨ws, hr, e1⟩ := gLs_okY (f := den env.s) (f' := denX val lval) (fun hh => gS_okY h hh) a.ss hr
    obtain ⟨us, hr, e2⟩ := gLs_okY (f := denX env.s env.l) (f' := denX val lval) (fun hh => gX_okY h hh) _ hr
    rw [denX_map] at e2
    cases hr
    show some (a.ss.map (den env.s), a.ls.map fun y => denX env.s env.l y.1) = _
    rw [e1, e2]
  | go j a =>
    have hr : (fLs (gS q) a.ss fun ss => fLs (gX q) (a.ls.map fun y => y.1) fun ls => some (Nat.succ j, ss, ls)) = some (0, ss, ls) := hr
    obtain ⟨ws, hr, e1⟩ := gLs_okY (f := den env.s) (f' := denX val lval) (fun hh => gS_okY h hh) a.ss hr
    obtain ⟨us, hr, e2⟩ := gLs_okY (f := denX env.s env.l) (f' := denX val lval) (fun hh => gX_okY h hh) _ hr
    cases hr
theorem KY_go {val lval : Nat → Value} {ds : List (Ctr P)} {F : CFn} {k j : Nat} {l : Lf} {q : QE} {env : Env} {ss ls : List Value} {r : List Value × List Value} (hrun : F.run ds k j (envY val lval ss ls) = some r) (h : q.ofY val lval env) (hr : KY l q = some (Nat.succ j, ss, ls)) : F.K ds k l env = some r := by
  cases l with
  | ret a =>
    have hr : (fLs (gS q) a.ss fun ss => fLs (gX q) (a.ls.map fun y => y.1) fun ls => some (0, ss, ls)) = some (Nat.succ j, ss, ls) := hr
    obtain ⟨ws, hr, e1⟩ := gLs_okY (f := den env.s) (f' := denX val lval) (fun hh => gS_okY h hh) a.ss hr
    obtain ⟨us, hr, e2⟩ := gLs_okY (f := denX env.s env.l) (f' := denX val lval) (fun hh => gX_okY h hh) _ hr
    cases hr
  | go i a =>
    have hr : (fLs (gS q) a.ss fun ss => fLs (gX q) (a.ls.map fun y => y.1) fun ls => some (Nat.succ i, ss, ls)) = some (Nat.succ j, ss, ls) := hr
    obtain ⟨ws, hr, e1⟩ := gLs_okY (f := den env.s) (f' := denX val lval) (fun hh => gS_okY h hh) a.ss hr
    obtain ⟨us, hr, e2⟩ := gLs_okY (f := denX env.s env.l) (f' := denX val lval) (fun hh => gX_okY h hh) _ hr
    rw [denX_map] at e2
    cases hr
    show F.run ds k j (envA a env) = some r
    unfold envA
    rw [e1, e2]
    exact hrun

def lenY (ss ls : List Value) : Bool := Nat.ble ss.length 65536 && Nat.ble ls.length 65536
/-- a way from a cut point on that leads to a cut point -/
noncomputable def stepY (t : TY) (c : Cut) (ss ls : List Value) : Option (Nat × List Value × List Value) := bif lenY ss ls then evY t KY c.T c.ns c.nl (qeY ss ls) else none

theorem stepY_go {val lval : Nat → Value} {ds : List (Ctr P)} {t : TY} (ht : t.ok val lval ds) {F : CFn} {i j k : Nat} {c : Cut} (hc : F.cuts[i]? = some c) {ss ls ss' ls' : List Value} {r : List Value × List Value} (h : stepY t c ss ls = some (Nat.succ j, ss', ls')) (hrun : F.run ds k j (envY val lval ss' ls') = some r) :
    F.run ds (k + 1) i (envY val lval ss ls) = some r := by
  unfold stepY lenY at h
  cases hb : Nat.ble ss.length 65536 && Nat.ble ls.length 65536 with
  | false => rw [hb] at h; cases h
  | true =>
    rw [hb, cond_true] at h
    rw [Bool.and_eq_true] at hb
    refine (CFn.step c hc).trans ?_
    exact evY_ok (K := KY) ht (fun a q env hq hr => KY_go hrun hq hr) c.T _ _ _ _ (qeY_of (Nat.le_of_ble_eq_true hb.1) (Nat.le_of_ble_eq_true hb.2)) h
theorem stepY_ret {val lval : Nat → Value} {ds : List (Ctr P)} {t : TY} (ht : t.ok val lval ds) {F : CFn} {i k : Nat} {c : Cut} (hc : F.cuts[i]? = some c) {ss ls ss' ls' : List Value} (h : stepY t c ss ls = some (0, ss', ls')) :
    F.run ds (k + 1) i (envY val lval ss ls) = some (ss'.map (denX val lval), ls'.map (denX val lval)) := by
  unfold stepY lenY at h
  cases hb : Nat.ble ss.length 65536 && Nat.ble ls.length 65536 with
  | false => rw [hb] at h; cases h
  | true =>
    rw [hb, cond_true] at h
    rw [Bool.and_eq_true] at hb
    refine (CFn.step c hc).trans ?_
    exact evY_ok (K := KY) ht (fun a q env hq hr => KY_ret hq hr) c.T _ _ _ _ (qeY_of (Nat.le_of_ble_eq_true hb.1) (Nat.le_of_ble_eq_true hb.2)) h

def isT1 : Option (Nat × List Value × List Value) → Bool
  | some (0, [.bool true], []) => true
  | _ => false
/-- a loop of which only the number of rounds is not known: each round leads on, and each may be the last -/
noncomputable def loopY (cuts : Nat → Option Cut) (go dn : Nat → TY) : Nat → Nat → Nat → List Value → List Value → Bool
  | 0, i, j, ss, ls => (match cuts j with
    | some c => isT1 (stepY (dn i) c ss ls)
    | none => false)
  | k + 1, i, j, ss, ls => (match cuts j with
    | some c => isT1 (stepY (dn i) c ss ls) && (match stepY (go i) c ss ls with
      | some (j', ss', ls') => (match j' with
        | 0 => false
        | Nat.succ j' => loopY cuts go dn k (Nat.succ i) j' ss' ls')
      | none => false)
    | none => false)
theorem isT1_eq {o : Option (Nat × List Value × List Value)} (h : isT1 o = true) : o = some (0, [.bool true], []) := by
  unfold isT1 at h
  split at h
  · rfl
  · cases h
theorem loopY_ok {val lval : Nat → Value} {ds : List (Ctr P)} {F : CFn} {cuts : Nat → Option Cut} (hcuts : ∀ j c, cuts j = some c → F.cuts[j]? = some c) {go dn : Nat → TY} {n : Nat} (hgo : ∀ i, i < n → (go i).ok val lval ds) (hdn : (dn n).ok val lval ds) :
    ∀ (k i j : Nat) (ss ls : List Value) (f : Nat), loopY cuts go dn k i j ss ls = true → i ≤ n → n ≤ i + k → n - i < f → F.run ds f j (envY val lval ss ls) = some ([.bool true], []) := by
  intro k
  induction k with
  | zero =>
    intro i j ss ls f h h1 h2 h3
    have : i = n := by omega
    subst this
    unfold loopY at h
    cases hc : cuts j with
    | none => rw [hc] at h; cases h
    | some c =>
      rw [hc] at h
      obtain ⟨f, rfl⟩ : ∃ g, f = g + 1 := ⟨f - 1, by omega⟩
      exact stepY_ret hdn (hcuts j c hc) (isT1_eq h)
  | succ k ih =>
    intro i j ss ls f h h1 h2 h3
    unfold loopY at h
    cases hc : cuts j with
    | none => rw [hc] at h; cases h
    | some c =>
      rw [hc] at h
      simp only [Bool.and_eq_true] at h
      obtain ⟨f, rfl⟩ : ∃ g, f = g + 1 := ⟨f - 1, by omega⟩
      by_cases he : i = n
      · subst he
        exact stepY_ret hdn (hcuts j c hc) (isT1_eq h.1)
      · have h4 := h.2
        split at h4
        case h_2 => cases h4
        rename_i j' ss' ls' hs
        cases j' with
        | zero => cases h4
        | succ j' => exact stepY_go (hgo i (by omega)) (hcuts j c hc) hs (ih (i + 1) j' ss' ls' f h4 (by omega) (by omega) (by omega))
/-- what is asked of a leaf of a cut point's tree -/
noncomputable def leafF (P : Program) (X : ExtT) (pr : PrT) (F : CFn) (u : Nat → Value) (c : Cut) : KS → Lf → Bool := match P.funcs[F.g]? with
  | some fn => (match fn.body with
    | some body => leafOK P X pr F fn.ntmps fn.results.toList body c u
    | none => fun _ _ => false)
  | none => fun _ _ => false
noncomputable def cutB (P : Program) (F : CFn) (c : Cut) : Bool := match P.funcs[F.g]? with
  | some fn => fn.body.isSome && cutOK fn.ntmps F.pre.mem.length c
  | none => false
theorem cutU_of {cs : List (Ctr P)} {X : ExtT} {pr : PrT} {F : CFn} {u : Nat → Value} {c : Cut} (h1 : cutB P F c = true) (h2 : chk (cs.map Ctr.cd) (leafF P X pr F u c) c.T ⟨c.ns, c.nl, [], [], [], []⟩ = true) : cutU cs X pr F u c = true := by
  unfold cutB at h1
  unfold leafF at h2
  unfold cutU
  cases hfn : P.funcs[F.g]? with
  | none => simp only [hfn] at h1; cases h1
  | some fn =>
    simp only [hfn] at h1 h2 ⊢
    rw [Bool.and_eq_true] at h1
    obtain ⟨body, hb⟩ := Option.isSome_iff_exists.1 h1.1
    simp only [hb] at h2 ⊢
    rw [h1.2, h2]; rfl
/-- one way behind a call -/
noncomputable def wayU {α : Type} (cd : List CD) (run : KS → α → Bool) (ks : KS) (a : Sub) (i : Nat) (T : Tr α) : Bool := match cd[i]? with
  | some d => subLt ks.n ks.m a d.pre && chk cd run T ⟨Nat.add ks.n d.post.ns, Nat.add ks.m d.post.nl, ks.tab, ks.ltab, ks.ptr, ⟨d.g, d.pre, d.post, d.flat, a, ks.n, ks.m, d.pan⟩ :: ks.kn⟩
  | none => false
theorem chk_o {α : Type} {cd : List CD} {run : KS → α → Bool} {ks : KS} {a : Sub} {i : Nat} {T T2 : Tr α} (h : wayU cd run ks a i T = true) (h2 : chk cd run T2 ks = true) : chk cd run (.o i a T T2) ks = true := by
  show (_ && chk cd run T2 ks) = true
  rw [h2, Bool.and_true]
  exact h
theorem chk_c {α : Type} {cd : List CD} {run : KS → α → Bool} {ks : KS} {a : Sub} {i : Nat} {T : Tr α} (h : wayU cd run ks a i T = true) : chk cd run (.c i a T) ks = true := h
end Go.Eng
