/- Calls that are run apart from their callers: segments, with what they leave alone. -/
import Derived.Test.YtopofdjgfbimnaaGreatEngU
namespace Go.Eng
variable [SymV] [SymT]

def iv (n : Nat) : Value := .int .i64 (.ofNat n)
def nv (n : Nat) : Value := .int .i64 (.negSucc n)

/-- what 'CallSound' says of one call -/
def SC (P : Program) (g : FuncId) (args : List Value) (m : LMem) (v : Value) (m' : LMem) : Prop :=
  (m.next ≤ m'.next ∧ WF m') ∧ ∀ φ w args', MR φ m.get w → Bd φ m.next → VRL φ args args' → Calls P g ⟨args'⟩ w (CallPost m m' v φ w)

def lk : List (Nat × LB) → Nat → Option LB
  | [], _ => none
  | (i, b) :: r, j => if i = j then some b else lk r j

noncomputable def fill (t : TM LB) : List (Nat × LB) → TM LB
  | [] => t
  | (i, b) :: r => TM.set (fill t r) i b

theorem fill_get {t : TM LB} {j : Nat} (hj : j < 65536) : ∀ {l : List (Nat × LB)}, (∀ p ∈ l, p.1 < 65536) → TM.get (fill t l) j = (match lk l j with | some b => some b | none => TM.get t j)
  | [], _ => by have _s := SymT.tab; have _s := SymT.tab; exact rfl
  | (i, b) :: r, h => by
    have hi : i < 65536 := h (i, b) (by simp)
    have ih := fill_get (t := t) hj (l := r) fun p hp => h p (by simp [hp])
    simp only [fill, lk]
    rw [TM.get_set]
    by_cases he : i = j
    · subst he; simp
    · rw [if_neg (by omega), if_neg he, ih]

noncomputable def mem (n : Nat) (l : List (Nat × LB)) : LMem := ⟨fill (TM.lf (some .dead)) l, n⟩

theorem lk_mem : ∀ {l : List (Nat × LB)} {j : Nat} {b : LB}, lk l j = some b → (j, b) ∈ l
  | [], _, _, h => by have _s := SymT.tab; simp [lk] at h
  | (i, b') :: r, j, b, h => by
    simp only [lk] at h
    by_cases he : i = j
    · rw [if_pos he] at h; cases h; subst he; simp
    · rw [if_neg he] at h; have := lk_mem h; simp [this]

theorem lk_none : ∀ {l : List (Nat × LB)} {j : Nat}, lk l j = none → ∀ p ∈ l, p.1 ≠ j
  | [], _, _, p, hp => by have _s := SymT.tab; simp at hp
  | (i, b') :: r, j, h, p, hp => by
    simp only [lk] at h
    by_cases he : i = j
    · rw [if_pos he] at h; cases h
    · rw [if_neg he] at h
      rcases List.mem_cons.1 hp with rfl | hp
      · exact he
      · exact lk_none h p hp

theorem mem_get {n : Nat} {l : List (Nat × LB)} {j : Nat} (hl : ∀ p ∈ l, p.1 < 65536) (hn : n ≤ 16384) (hj : j < n) : (mem n l).get j = some ((lk l j).getD .dead) := by
  have h1 : (mem n l).get j = TM.get (fill (TM.lf (some .dead)) l) j := LMem.get_tr (m := mem n l) hj
  rw [h1, fill_get (by omega) hl]
  cases lk l j with
  | none => exact TM.get_lf _ _
  | some b => rfl

/-- all blocks that a value names are among S (as far as the fuel goes) -/
def inS (S : Nat → Bool) : Nat → Value → Bool
  | 0, _ => false
  | n + 1, v => match v with
    | .pointer (some a) => S a.block
    | .slice (some a) _ _ => S a.block
    | .map (some r) => S r
    | .chan (some _) => false
    | .func _ xs ys => xs.toList.all (inS S n) && ys.toList.all (inS S n)
    | .iface _ x => inS S n x
    | .agg xs => xs.toList.all (inS S n)
    | .tuple xs => xs.toList.all (inS S n)
    | _ => true

def inSB (S : Nat → Bool) : LB → Bool
  | .cells c => c.all (inS S 7)
  | .ro c => c.all (inS S 7)
  | .map es _ => es.all fun e => inS S 7 e.val
  | .dead => true

mutual
theorem VR.inS {φ φ' : Phi} {S : Nat → Bool} (hS : ∀ id, S id = true → φ' id = φ id) : ∀ {x y : Value} (k : Nat), VR φ x y → inS S k x = true → VR φ' x y
  | _, _, 0, _, h => by have _s := SymT.tab; have _s := SymT.tab; simp [Eng.inS] at h
  | _, _, _ + 1, .bool b, _ => .bool b
  | _, _, _ + 1, .int k n, _ => .int k n
  | _, _, _ + 1, .string s, _ => .string s
  | _, _, _ + 1, .float k n, _ => .float k n
  | _, _, _ + 1, .sym k n m v hv, _ => .sym k n m v hv
  | _, _, _ + 1, .cnil, _ => .cnil
  | _, _, _ + 1, .pnil, _ => .pnil
  | _, _, _ + 1, .ptr b off l hl, h => .ptr b off l (by rw [hS b (by simpa [Eng.inS] using h)]; exact hl)
  | _, _, _ + 1, .pdead b off sp a hl, h => .pdead b off sp a (by rw [hS b (by simpa [Eng.inS] using h)]; exact hl)
  | _, _, _ + 1, .snil n c, _ => .snil n c
  | _, _, _ + 1, .slice b off sp len cap cap' l hl h1 h2 h3 h4, h => .slice b off sp len cap cap' l (by rw [hS b (by simpa [Eng.inS] using h)]; exact hl) h1 h2 h3 h4
  | _, _, _ + 1, .sdead b off sp len cap cap' a hl h1 h2 h3, h => .sdead b off sp len cap cap' a (by rw [hS b (by simpa [Eng.inS] using h)]; exact hl) h1 h2 h3
  | _, _, _ + 1, .szero b off e o l hl, h => .szero b off e o l (by rw [hS b (by simpa [Eng.inS] using h)]; exact hl)
  | _, _, _ + 1, .mnil, _ => .mnil
  | _, _, _ + 1, .map r l hl, h => .map r l (by rw [hS r (by simpa [Eng.inS] using h)]; exact hl)
  | _, _, _ + 1, .mdead r r' hl, h => .mdead r r' (by rw [hS r (by simpa [Eng.inS] using h)]; exact hl)
  | _, _, k + 1, .func fn xs us ys vs h1 h2, h => by
    simp only [Eng.inS, Bool.and_eq_true] at h
    exact .func fn xs us ys vs (VRL.inS hS k h1 h.1) (VRL.inS hS k h2 h.2)
  | _, _, _ + 1, .nilFunc, _ => .nilFunc
  | _, _, k + 1, .iface t x y h1, h => .iface t x y (VR.inS hS k h1 (by simpa [Eng.inS] using h))
  | _, _, _ + 1, .nilIface, _ => .nilIface
  | _, _, k + 1, .agg xs ys h1, h => .agg xs ys (VRL.inS hS k h1 h)
  | _, _, k + 1, .tuple xs ys h1, h => .tuple xs ys (VRL.inS hS k h1 h)
theorem VRL.inS {φ φ' : Phi} {S : Nat → Bool} (hS : ∀ id, S id = true → φ' id = φ id) : ∀ {x y : List Value} (k : Nat), VRL φ x y → x.all (Eng.inS S k) = true → VRL φ' x y
  | _, _, _, .nil, _ => by have _s := SymT.tab; exact .nil
  | _, _, k, .cons x y xs ys h1 h2, h => by
    simp only [List.all_cons, Bool.and_eq_true] at h
    exact .cons x y xs ys (VR.inS hS k h1 h.1) (VRL.inS hS k h2 h.2)
end

theorem BR.inS {φ φ' : Phi} {S : Nat → Bool} (hS : ∀ id, S id = true → φ' id = φ id) {b : LB} {l : Loc} {w : World} (hb : BR φ b l w) (h : inSB S b = true) : BR φ' b l w := by
  cases b with
  | cells c =>
    obtain ⟨c', e, h1, h2, h3, h4⟩ := hb
    refine ⟨c', e, h1, h2, h3, fun i v hv => ?_⟩
    obtain ⟨v', h5, h6⟩ := h4 i v hv
    exact ⟨v', h5, h6.inS hS 7 (List.all_eq_true.1 h v (List.mem_of_getElem? hv))⟩
  | ro c =>
    obtain ⟨c', e, fz, h1, h2, h3, h4⟩ := hb
    refine ⟨c', e, fz, h1, h2, h3, fun i v hv => ?_⟩
    obtain ⟨v', h5, h6⟩ := h4 i v hv
    exact ⟨v', h5, h6.inS hS 7 (List.all_eq_true.1 h v (List.mem_of_getElem? hv))⟩
  | map es ck =>
    obtain ⟨es', h1, h2⟩ := hb
    refine ⟨es', h1, h2.len, fun i e he => ?_⟩
    obtain ⟨e', h3, h4, h5, h6, h7⟩ := h2.at_ i e he
    exact ⟨e', h3, h4, h5, h6, h7.inS hS 7 (List.all_eq_true.1 h e (List.mem_of_getElem? he))⟩
  | dead => exact hb.elim

def eeq (a b : MapEntry) : Bool := veq 7 a.key b.key && veq 7 a.val b.val && Nat.beq a.born b.born

def eeqL : List MapEntry → List MapEntry → Bool
  | [], [] => true
  | x :: xs, y :: ys => eeq x y && eeqL xs ys
  | _, _ => false

def lbeq : LB → LB → Bool
  | .cells a, .cells b => veqL (veq 7) a b
  | .ro a, .ro b => veqL (veq 7) a b
  | .map a c, .map b d => eeqL a b && Nat.beq c d
  | .dead, .dead => true
  | _, _ => false

theorem eeq_eq {a b : MapEntry} (h : eeq a b = true) : a = b := by
  unfold eeq at h
  simp only [Bool.and_eq_true] at h
  have h1 := veq_eq 7 _ _ h.1.1
  have h2 := veq_eq 7 _ _ h.1.2
  have h3 := Nat.eq_of_beq_eq_true h.2
  cases a; cases b; simp only at h1 h2 h3; subst h1; subst h2; subst h3; rfl

theorem eeqL_eq : ∀ {a b : List MapEntry}, eeqL a b = true → a = b
  | [], [], _ => rfl
  | [], _ :: _, h => by simp [eeqL] at h
  | _ :: _, [], h => by simp [eeqL] at h
  | x :: xs, y :: ys, h => by
    simp only [eeqL, Bool.and_eq_true] at h
    rw [eeq_eq h.1, eeqL_eq h.2]

theorem lbeq_eq {a b : LB} (h : lbeq a b = true) : a = b := by
  cases a <;> cases b <;> simp only [lbeq] at h <;> first | rfl | cases h | skip
  · rw [veqL_eq (veq_eq 7) h]
  · rw [veqL_eq (veq_eq 7) h]
  · simp only [Bool.and_eq_true] at h
    rw [eeqL_eq h.1, Nat.eq_of_beq_eq_true h.2]

structure Seg where
  g : FuncId
  args : List Value
  n : Nat
  pre : List (Nat × LB)
  v : Value
  n' : Nat
  post : List (Nat × LB)

def hasId : List (Nat × LB) → Nat → Bool
  | [], _ => false
  | (i, _) :: r, j => Nat.beq i j || hasId r j

theorem hasId_lk : ∀ {l : List (Nat × LB)} {j : Nat}, hasId l j = true ↔ ∃ b, lk l j = some b
  | [], j => by have _s := SymT.tab; simp [hasId, lk]
  | (i, b) :: r, j => by
    simp only [hasId, lk, Bool.or_eq_true]
    by_cases he : i = j
    · subst he; simp [Nat.beq_refl]
    · rw [if_neg he, ← hasId_lk]
      have : Nat.beq i j = false := by
        cases hb : Nat.beq i j
        · rfl
        · exact absurd (Nat.eq_of_beq_eq_true hb) he
      simp [this]

/-- the blocks that a segment may name behind it -/
def Seg.own (s : Seg) (j : Nat) : Bool := Nat.ble s.n j || hasId s.pre j

def segOK (s : Seg) : Bool :=
  Nat.ble s.n s.n' && Nat.ble s.n' 16384 && s.pre.all (fun p => Nat.blt p.1 s.n && Nat.ble (ubB p.2) s.n) &&
  s.post.all (fun p => Nat.blt p.1 s.n' && Nat.ble (ubB p.2) s.n' && s.own p.1 && inSB s.own p.2) && inS s.own 7 s.v

noncomputable def holdsAll (m : LMem) (l : List (Nat × LB)) : Bool :=
  List.rec (motive := fun _ => Bool) true (fun p _ ih => Option.rec (motive := fun _ => Bool) false (fun b => lbeq b p.2 && ih) (m.get p.1)) l

theorem holdsAll_at {m : LMem} : ∀ {l : List (Nat × LB)}, holdsAll m l = true → ∀ p ∈ l, m.get p.1 = some p.2
  | [], _, p, hp => by simp at hp
  | q :: r, h, p, hp => by
    have h' : (Option.rec (motive := fun _ => Bool) false (fun b => lbeq b q.2 && holdsAll m r) (m.get q.1)) = true := h
    cases hg : m.get q.1 with
    | none => rw [hg] at h'; cases h'
    | some b =>
      rw [hg] at h'
      have h2 : (lbeq b q.2 && holdsAll m r) = true := h'
      rw [Bool.and_eq_true] at h2
      rcases List.mem_cons.1 hp with rfl | hp
      · rw [hg, lbeq_eq h2.1]
      · exact holdsAll_at h2.2 p hp

noncomputable def segRun (r : Option (Value × LMem)) (s : Seg) : Bool :=
  match r with
  | some (v, m) => Nat.beq m.next s.n' && veq 7 v s.v && holdsAll m s.post
  | none => false

theorem mem_wf {n : Nat} {l : List (Nat × LB)} (hn : n ≤ 16384) (hl : ∀ p ∈ l, p.1 < n ∧ ubB p.2 ≤ n) : WF (mem n l) := by
  refine ⟨hn, fun id b h => ?_⟩
  have hid : id < n := LMem.get_lt h
  rw [mem_get (fun p hp => by have := (hl p hp).1; omega) hn hid] at h
  cases h
  show ubB ((lk l id).getD .dead) ≤ n
  cases hk : lk l id with
  | none => exact Nat.zero_le _
  | some b => exact (hl _ (lk_mem hk)).2

structure SegFit (s : Seg) : Prop where
  le : s.n ≤ s.n'
  room : s.n' ≤ 16384
  pre : ∀ p ∈ s.pre, p.1 < s.n ∧ ubB p.2 ≤ s.n
  post : ∀ p ∈ s.post, p.1 < s.n' ∧ ubB p.2 ≤ s.n'
  own : ∀ p ∈ s.post, s.own p.1 = true ∧ inSB s.own p.2 = true
  val : inS s.own 7 s.v = true

theorem segFit {s : Seg} (h : segOK s = true) : SegFit s := by
  have _s := SymT.tab
  unfold segOK at h
  simp only [Bool.and_eq_true, List.all_eq_true] at h
  obtain ⟨⟨⟨⟨h1, h2⟩, h3⟩, h4⟩, h5⟩ := h
  exact ⟨Nat.le_of_ble_eq_true h1, Nat.le_of_ble_eq_true h2, fun p hp => ⟨blt_lt (h3 p hp).1, Nat.le_of_ble_eq_true (h3 p hp).2⟩,
    fun p hp => ⟨blt_lt (h4 p hp).1.1.1, Nat.le_of_ble_eq_true (h4 p hp).1.1.2⟩, fun p hp => ⟨(h4 p hp).1.2, (h4 p hp).2⟩, h5⟩

/-- blocks given up: dead for the logical memory -/
theorem killL {φ : Phi} {m : LMem} {w : World} {n : Nat} {l : List (Nat × LB)} (hn : n ≤ 16384) (hm : MR φ m.get w) (hb : Bd φ n) (hl : ∀ p ∈ l, p.1 < n ∧ m.get p.1 = some p.2) :
    ∃ φ', Ext φ φ' ∧ (∀ id, φ id = none → φ' id = none) ∧ (∀ id x, φ' id = some (some x) → φ id = some (some x)) ∧ MR φ' (mem n l).get w ∧ Bd φ' n := by
  have hl' : ∀ p ∈ l, p.1 < 65536 := fun p hp => by have := (hl p hp).1; omega
  refine ⟨fun id => (φ id).map fun x => if hasId l id then x else none, ?_, ?_, ?_, ⟨?_, ?_, ?_⟩, ?_⟩
  · intro id hid
    cases h : φ id with
    | none => exact absurd h hid
    | some x => cases hh : hasId l id <;> simp [h, hh]
  · intro id h; simp [h]
  · intro id x h
    cases hq : φ id with
    | none => simp [hq] at h
    | some y => cases hh : hasId l id <;> simp [hq, hh] at h; rw [h]
  · intro id x h
    cases hq : φ id with
    | none => simp [hq] at h
    | some y =>
      cases hh : hasId l id with
      | false => simp [hq, hh] at h
      | true =>
        simp [hq, hh] at h
        obtain ⟨b, h1, h2⟩ := hm.live id x (by rw [hq, h])
        obtain ⟨b', hb'⟩ := hasId_lk.1 hh
        have hm' := (hl _ (lk_mem hb')).2
        simp only at hm'
        rw [h1] at hm'
        cases hm'
        refine ⟨b, by rw [mem_get hl' hn (hb id (by rw [hq]; simp)), hb']; rfl, h2.mono (fun jd hj => ?_) rfl⟩
        cases hqj : φ jd with
        | none => exact absurd hqj hj
        | some z => cases hasId l jd <;> simp
  · intro id h
    have hid : id < n := hb id (fun h0 => by simp [h0] at h)
    rw [mem_get hl' hn hid]
    cases hk : lk l id with
    | none => rfl
    | some b =>
      have hh : hasId l id = true := hasId_lk.2 ⟨b, hk⟩
      cases hq : φ id with
      | none => simp [hq] at h
      | some y =>
        simp [hq, hh] at h
        have := hm.dead id (by rw [hq, h])
        have hm' := (hl _ (lk_mem hk)).2
        simp only at hm'
        rw [this] at hm'
        cases hm'; rfl
  · intro id jd x y h1 h2 he
    have a1 : φ id = some (some x) := by
      cases hq : φ id with
      | none => simp [hq] at h1
      | some z => cases hh : hasId l id <;> simp [hq, hh] at h1; rw [h1]
    have a2 : φ jd = some (some y) := by
      cases hq : φ jd with
      | none => simp [hq] at h2
      | some z => cases hh : hasId l jd <;> simp [hq, hh] at h2; rw [h2]
    exact hm.inj id jd x y a1 a2 he
  · intro id h; exact hb id fun h0 => h (by simp [h0])

theorem seg_of_run {P : Program} {X : ExtT} (hP : POK P X) {prim : FuncId → Option (List Value → LMem → Option (Value × LMem))} (hp : PrimOK P prim) {fuel k : Nat} {s : Seg} (hs : SegFit s)
    (h : segRun (callFF P X prim fuel k s.g s.args (mem s.n s.pre)) s = true) : SC P s.g s.args (mem s.n s.pre) s.v (mem s.n' s.post) := by
  cases hr : callFF P X prim fuel k s.g s.args (mem s.n s.pre) with
  | none => rw [hr] at h; cases h
  | some r =>
    obtain ⟨v, m⟩ := r
    rw [hr] at h
    have h' : (Nat.beq m.next s.n' && veq 7 v s.v && holdsAll m s.post) = true := h
    simp only [Bool.and_eq_true] at h'
    obtain ⟨⟨h1, h2⟩, h3⟩ := h'
    have h1 := Nat.eq_of_beq_eq_true h1
    have h2 := veq_eq 7 _ _ h2
    subst h2
    have h3 := holdsAll_at h3
    rw [callFF_eq] at hr
    have hw : WF (mem s.n s.pre) := mem_wf (Nat.le_trans hs.le hs.room) hs.pre
    have hc := call_sound hP hp fuel k s.g s.args (mem s.n s.pre) _ _ hr hw
    refine ⟨⟨hs.le, mem_wf hs.room hs.post⟩, fun φ w args' hm hb ha => ?_⟩
    refine (hc.2 φ w args' hm hb ha).mono fun e w' ⟨v', φ', he, hsim, hv, hm', hb'⟩ => ?_
    rw [h1] at hb'
    obtain ⟨φ2, k1, k2, k3, k4, k5⟩ := killL (n := s.n') (l := s.post) hs.room hm' hb' fun p hp => ⟨(hs.post p hp).1, h3 p hp⟩
    refine ⟨v', φ2, he, ⟨hsim.ext.trans k1, fun id l hl => hsim.new id l (k3 id l hl), fun id hid h0 => k2 id (hsim.un id hid h0), hsim.fr⟩, hv.mono k1, k4, k5⟩

/-- what the segment's own blocks and the new ones are behind it, if nothing else is said -/
def deads : Nat → Nat → List (Nat × LB)
  | 0, _ => []
  | k + 1, i => (i, .dead) :: deads k (Nat.succ i)

theorem deads_lk : ∀ (k i j : Nat), lk (deads k i) j = if i ≤ j ∧ j < i + k then some .dead else none
  | 0, i, j => by have _s := SymT.tab; rw [if_neg (by omega)]; rfl
  | k + 1, i, j => by
    simp only [deads, lk]
    rw [deads_lk k (i + 1) j]
    by_cases he : i = j
    · rw [if_pos he, if_pos (by omega)]
    · rw [if_neg he]
      by_cases h : i + 1 ≤ j ∧ j < i + 1 + k
      · rw [if_pos h, if_pos (by omega)]
      · rw [if_neg h, if_neg (by omega)]

theorem deads_keys : ∀ (k i : Nat), ∀ p ∈ deads k i, p.1 < i + k
  | 0, i, p, hp => by have _s := SymT.tab; simp [deads] at hp
  | k + 1, i, p, hp => by
    simp only [deads, List.mem_cons] at hp
    rcases hp with rfl | hp
    · simp
    · have := deads_keys k (i + 1) p hp; omega

def gone (l : List (Nat × LB)) : List (Nat × LB) := l.map fun p => (p.1, .dead)

theorem gone_lk : ∀ (l : List (Nat × LB)) (j : Nat), lk (gone l) j = (lk l j).map fun _ => .dead
  | [], j => by have _s := SymT.tab; exact rfl
  | (i, b) :: r, j => by
    simp only [gone, List.map_cons, lk]
    by_cases he : i = j
    · rw [if_pos he, if_pos he]; rfl
    · rw [if_neg he, if_neg he]; exact gone_lk r j

/-- the segment's memory behind it, laid over the caller's -/
noncomputable def Seg.over (s : Seg) (m : LMem) : LMem :=
  LMem.rec (motive := fun _ => LMem) (fun tr _ => ⟨fill (fill (fill tr (gone s.pre)) (deads (s.n' - s.n) s.n)) s.post, s.n'⟩) m

theorem over_get {s : Seg} (hs : SegFit s) {m : LMem} (hn : m.next = s.n) (j : Nat) (hj : j < s.n') :
    (s.over m).get j = if s.own j = true then some ((lk s.post j).getD .dead) else m.get j := by
  have hr := hs.room
  have hle := hs.le
  have hkey1 : ∀ p ∈ s.post, p.1 < 65536 := fun p hp => by have := (hs.post p hp).1; omega
  have hkey2 : ∀ p ∈ deads (s.n' - s.n) s.n, p.1 < 65536 := fun p hp => by have := deads_keys _ _ p hp; omega
  have hkey3 : ∀ p ∈ gone s.pre, p.1 < 65536 := fun p hp => by
    obtain ⟨q, hq, rfl⟩ := List.mem_map.1 hp
    have := (hs.pre q hq).1; simp only; omega
  have h1 : (s.over m).get j = TM.get (fill (fill (fill m.tr (gone s.pre)) (deads (s.n' - s.n) s.n)) s.post) j := by
    obtain ⟨tr, next⟩ := m
    exact LMem.get_tr (m := Seg.over s ⟨tr, next⟩) hj
  rw [h1, fill_get (by omega) hkey1, fill_get (by omega) hkey2, fill_get (by omega) hkey3, deads_lk, gone_lk]
  cases hk : lk s.post j with
  | some b =>
    rw [if_pos (hs.own _ (lk_mem hk)).1]; rfl
  | none =>
    simp only
    by_cases ho : s.own j = true
    · rw [if_pos ho]
      unfold Seg.own at ho
      rw [Bool.or_eq_true] at ho
      rcases Nat.lt_or_ge j s.n with hlt | hge
      · have hh : hasId s.pre j = true := by
          rcases ho with ho | ho
          · have := Nat.le_of_ble_eq_true ho; omega
          · exact ho
        obtain ⟨b, hb⟩ := hasId_lk.1 hh
        rw [if_neg (by omega), hb]; rfl
      · rw [if_pos (by omega)]; rfl
    · rw [if_neg ho]
      unfold Seg.own at ho
      rw [Bool.or_eq_true] at ho
      have hlt : j < s.n := by
        rcases Nat.lt_or_ge j s.n with h | h
        · exact h
        · exact absurd (Or.inl (Nat.ble_eq_true_of_le h)) ho
      have hp : lk s.pre j = none := by
        cases hq : lk s.pre j with
        | none => rfl
        | some b => exact absurd (Or.inr (hasId_lk.2 ⟨b, hq⟩)) ho
      rw [if_neg (by omega), hp]
      simp only [Option.map_none]
      rw [LMem.get_tr (by omega)]

noncomputable def segApply (s : Seg) (args : List Value) (m : LMem) : Option (Value × LMem) :=
  bif Nat.beq m.next s.n then (bif veqL (veq 7) args s.args then (bif holdsAll m s.pre then some (s.v, s.over m) else none) else none) else none

theorem segApply_ok {P : Program} {s : Seg} (hs : SegFit s) (hsc : SC P s.g s.args (mem s.n s.pre) s.v (mem s.n' s.post)) {args : List Value} {m m' : LMem} {v : Value}
    (h : segApply s args m = some (v, m')) (hw : WF m) : SC P s.g args m v m' := by
  unfold segApply at h
  cases h1 : Nat.beq m.next s.n with
  | false => rw [h1] at h; cases h
  | true =>
  cases h2 : veqL (veq 7) args s.args with
  | false => rw [h1, h2] at h; cases h
  | true =>
  cases h3 : holdsAll m s.pre with
  | false => rw [h1, h2, h3] at h; cases h
  | true =>
  rw [h1, h2, h3] at h
  simp only [cond_true, Option.some.injEq, Prod.mk.injEq] at h
  obtain ⟨rfl, rfl⟩ := h
  have h1 := Nat.eq_of_beq_eq_true h1
  have h2 := veqL_eq (veq_eq 7) h2
  subst h2
  have h3 := holdsAll_at h3
  have hle := hs.le
  have hroom := hs.room
  have hnext : (s.over m).next = s.n' := by cases m; rfl
  have hpre : ∀ p ∈ s.pre, p.1 < 65536 := fun p hp => by have := (hs.pre p hp).1; omega
  have hpost : ∀ p ∈ s.post, p.1 < 65536 := fun p hp => by have := (hs.post p hp).1; omega
  refine ⟨⟨by rw [hnext, h1]; exact hle, ⟨by rw [hnext]; exact hroom, fun id b hb => ?_⟩⟩, fun φ w args' hm hb ha => ?_⟩
  · have hid := LMem.get_lt hb
    rw [hnext] at hid ⊢
    rw [over_get hs h1 id hid] at hb
    by_cases ho : s.own id = true
    · rw [if_pos ho] at hb
      cases hb
      cases hk : lk s.post id with
      | none => exact Nat.zero_le _
      | some b => exact (hs.post _ (lk_mem hk)).2
    · rw [if_neg ho] at hb
      have := hw.closed id b hb
      omega
  · rw [h1] at hb
    obtain ⟨φ0, k1, k2, k3, k4, k5⟩ := killL (n := s.n) (l := s.pre) (Nat.le_trans hle hroom) hm hb fun p hp => ⟨(hs.pre p hp).1, h3 p hp⟩
    -- what is kept of the blocks that the segment has
    have k6 : ∀ id, s.own id = true → φ0 id = φ id := by
      intro id ho
      cases hq : φ id with
      | none => exact k2 id hq
      | some x =>
        have hid : id < s.n := hb id (by rw [hq]; simp)
        rcases k1 id (by rw [hq]; simp) with h | h
        · rw [h, hq]
        · cases x with
          | none => exact h
          | some l =>
            exfalso
            unfold Seg.own at ho
            rw [Bool.or_eq_true] at ho
            rcases ho with ho | ho
            · have := Nat.le_of_ble_eq_true ho; omega
            · obtain ⟨b, hb'⟩ := hasId_lk.1 ho
              have hd := k4.dead id h
              rw [mem_get hpre (Nat.le_trans hle hroom) hid, hb'] at hd
              cases hd
              have hmm := h3 _ (lk_mem hb')
              obtain ⟨b, hl1, hl2⟩ := hm.live id l hq
              simp only at hmm
              rw [hl1] at hmm
              cases hmm
              exact hl2.elim
    refine (hsc.2 φ0 w args' k4 k5 (ha.mono k1)).mono fun e w' ⟨v', φ1, he, hsim, hv, hm1, hb1⟩ => ?_
    have hb1 : Bd φ1 s.n' := hb1
    have hsim : Sim s.n φ0 φ1 w w' := hsim
    have hS : ∀ id, s.own id = true → (fun id => if s.own id = true then φ1 id else φ id) id = φ1 id := fun id ho => by simp [ho]
    have hext : Ext φ (fun id => if s.own id = true then φ1 id else φ id) := by
      intro id hid
      by_cases ho : s.own id = true
      · simp only [ho, if_true]
        rcases hsim.ext id (by rw [k6 id ho]; exact hid) with h | h
        · exact .inl (h.trans (k6 id ho))
        · exact .inr h
      · simp [ho]
    have hnew : ∀ id l, φ1 id = some (some l) → (∃ jd l0, s.own jd = true ∧ φ jd = some (some l0) ∧ l0.b = l.b) ∨ w.heap.size ≤ l.b := by
      intro id l hl
      rcases hsim.new id l hl with ⟨jd, l0, g1, g2⟩ | g1
      · have hjd := k3 jd l0 g1
        refine .inl ⟨jd, l0, ?_, hjd, g2⟩
        have hjlt : jd < s.n := hb jd (by rw [hjd]; simp)
        obtain ⟨b, hl1, hl2⟩ := k4.live jd l0 g1
        rw [mem_get hpre (Nat.le_trans hle hroom) hjlt] at hl1
        cases hk : lk s.pre jd with
        | none => rw [hk] at hl1; cases hl1; exact hl2.elim
        | some b => unfold Seg.own; rw [Bool.or_eq_true]; exact .inr (hasId_lk.2 ⟨b, hk⟩)
      · exact .inr g1
    have hlt : ∀ id l, φ id = some (some l) → l.b < w.heap.size := fun id l hl => by
      obtain ⟨b, _, h2⟩ := hm.live id l hl; exact h2.lt
    refine ⟨v', fun id => if s.own id = true then φ1 id else φ id, he, ⟨hext, ?_, ?_, ⟨hsim.fr.os, hsim.fr.tape, hsim.fr.output, hsim.fr.size, ?_⟩⟩, hv.inS hS 7 hs.val, ⟨?_, ?_, ?_⟩, ?_⟩
    · intro id l hl
      by_cases ho : s.own id = true
      · simp only [ho, if_true] at hl
        rcases hnew id l hl with ⟨jd, l0, _, g1, g2⟩ | g1
        · exact .inl ⟨jd, l0, g1, g2⟩
        · exact .inr g1
      · simp [ho] at hl
        exact .inl ⟨id, l, hl, rfl⟩
    · intro id hid h0
      by_cases ho : s.own id = true
      · simp only [ho, if_true]
        exact hsim.un id (by omega) (by rw [k6 id ho]; exact h0)
      · simp [ho, h0]
    · intro b hb' hne
      exact hsim.fr.same b hb' fun id l hl => hne id l (k3 id l hl)
    · intro id l hl
      by_cases ho : s.own id = true
      · simp only [ho, if_true] at hl
        have hid : id < s.n' := hb1 id (by rw [hl]; simp)
        obtain ⟨b, g1, g2⟩ := hm1.live id l hl
        rw [mem_get hpost hroom hid] at g1
        rw [over_get hs h1 id hid, if_pos ho]
        cases hk : lk s.post id with
        | none => rw [hk] at g1; cases g1; exact g2.elim
        | some b' =>
          rw [hk] at g1
          cases g1
          exact ⟨b', rfl, g2.inS hS (hs.own _ (lk_mem hk)).2⟩
      · simp [ho] at hl
        have hid : id < s.n := hb id (by rw [hl]; simp)
        obtain ⟨b, g1, g2⟩ := hm.live id l hl
        rw [over_get hs h1 id (by omega), if_neg ho]
        refine ⟨b, g1, g2.mono hext (hsim.fr.same l.b g2.lt fun jd l0 hl0 hbe => ?_)⟩
        have hjd := k3 jd l0 hl0
        have := hm.inj jd id l0 l hjd hl hbe
        subst this
        have hjlt : jd < s.n := hb jd (by rw [hjd]; simp)
        obtain ⟨b, hl1, hl2⟩ := k4.live jd l0 hl0
        rw [mem_get hpre (Nat.le_trans hle hroom) hjlt] at hl1
        cases hk : lk s.pre jd with
        | none => rw [hk] at hl1; cases hl1; exact hl2.elim
        | some b => exact ho (by unfold Seg.own; rw [Bool.or_eq_true]; exact .inr (hasId_lk.2 ⟨b, hk⟩))
    · intro id hd
      by_cases ho : s.own id = true
      · simp only [ho, if_true] at hd
        have hid : id < s.n' := hb1 id (by rw [hd]; simp)
        have := hm1.dead id hd
        rw [mem_get hpost hroom hid] at this
        rw [over_get hs h1 id hid, if_pos ho]
        exact this
      · simp [ho] at hd
        have hid : id < s.n := hb id (by rw [hd]; simp)
        rw [over_get hs h1 id (by omega), if_neg ho]
        exact hm.dead id hd
    · have cross : ∀ id jd l l', s.own id = true → ¬ s.own jd = true → φ1 id = some (some l) → φ jd = some (some l') → l.b = l'.b → False := by
        intro id jd l l' ho hno hl hl' hbe
        rcases hnew id l hl with ⟨kd, l0, g0, g1, g2⟩ | g1
        · have := hm.inj kd jd l0 l' g1 hl' (g2.trans hbe)
          subst this
          exact hno g0
        · have := hlt jd l' hl'; omega
      intro id jd l l' hl hl' hbe
      by_cases ho : s.own id = true <;> by_cases hj : s.own jd = true
      · simp only [ho, if_true] at hl
        simp only [hj, if_true] at hl'
        exact hm1.inj id jd l l' hl hl' hbe
      · simp only [ho, if_true] at hl
        simp [hj] at hl'
        exact (cross id jd l l' ho hj hl hl' hbe).elim
      · simp [ho] at hl
        simp only [hj, if_true] at hl'
        exact (cross jd id l' l hj ho hl' hl hbe.symm).elim
      · simp [ho] at hl
        simp [hj] at hl'
        exact hm.inj id jd l l' hl hl' hbe
    · intro id h
      rw [hnext]
      by_cases ho : s.own id = true
      · simp only [ho, if_true] at h
        exact hb1 id h
      · simp [ho] at h
        have := hb id h; omega

abbrev PrimT := FuncId → Option (List Value → LMem → Option (Value × LMem))

noncomputable def trySegs : List Seg → FuncId → List Value → LMem → Option (Value × LMem)
  | [], _, _, _ => none
  | s :: r, g, args, m => bif Nat.beq s.g g && Nat.beq m.next s.n then (match segApply s args m with | some x => some x | none => trySegs r g args m) else trySegs r g args m

/-- a table of segments; for the functions that it names, and for no others -/
noncomputable def segPrim (gs : List FuncId) (l : List Seg) : PrimT := fun g => bif gs.any (Nat.beq g) then some (trySegs l g) else none

def SegGood (P : Program) (s : Seg) : Prop := SegFit s ∧ SC P s.g s.args (mem s.n s.pre) s.v (mem s.n' s.post)

theorem trySegs_ok {P : Program} : ∀ {l : List Seg}, (∀ s ∈ l, SegGood P s) → ∀ {g : FuncId} {args : List Value} {m m' : LMem} {v : Value}, trySegs l g args m = some (v, m') → WF m → SC P g args m v m'
  | [], _, _, _, _, _, _, h, _ => by simp [trySegs] at h
  | s :: r, hl, g, args, m, m', v, h, hw => by
    simp only [trySegs] at h
    have hs := hl s (by simp)
    have ih := fun h' => trySegs_ok (l := r) (fun t ht => hl t (List.mem_cons_of_mem _ ht)) (g := g) (args := args) (m := m) (m' := m') (v := v) h' hw
    cases hc : Nat.beq s.g g && Nat.beq m.next s.n with
    | false => rw [hc] at h; exact ih h
    | true =>
      rw [hc] at h
      rw [Bool.and_eq_true] at hc
      have := Nat.eq_of_beq_eq_true hc.1
      subst this
      simp only [cond_true] at h
      cases hq : segApply s args m with
      | none => rw [hq] at h; exact ih h
      | some x =>
        rw [hq] at h
        cases h
        exact segApply_ok hs.1 hs.2 hq hw

theorem segPrim_ok {P : Program} {gs : List FuncId} {l : List Seg} (hl : ∀ s ∈ l, SegGood P s) : PrimOK P (segPrim gs l) := by
  intro g p h args m v m' hp hw
  unfold segPrim at h
  cases hc : gs.any (Nat.beq g) with
  | false => rw [hc] at h; cases h
  | true =>
    rw [hc] at h
    cases h
    exact trySegs_ok hl hp hw

noncomputable def primOr (p q : PrimT) : PrimT := fun g => match p g with | some x => some x | none => q g

theorem primOr_ok {P : Program} {p q : PrimT} (hp : PrimOK P p) (hq : PrimOK P q) : PrimOK P (primOr p q) := by
  have _s := SymT.tab
  intro g x h
  unfold primOr at h
  cases hg : p g with
  | none => rw [hg] at h; exact hq g x h
  | some y => rw [hg] at h; cases h; exact hp g _ hg

theorem segGood {P : Program} {X : ExtT} (hP : POK P X) {prim : PrimT} (hp : PrimOK P prim) {fuel k : Nat} {s : Seg} (hs : segOK s = true)
    (h : segRun (callFF P X prim fuel k s.g s.args (mem s.n s.pre)) s = true) : SegGood P s := ⟨segFit hs, seg_of_run hP hp (segFit hs) h⟩

end Go.Eng
