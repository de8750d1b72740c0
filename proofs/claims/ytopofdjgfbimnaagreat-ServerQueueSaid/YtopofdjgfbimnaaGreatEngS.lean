/- The engine once more, in a form that the kernel runs faster; it is the same engine. -/
import Derived.Test.YtopofdjgfbimnaaGreatEngR
namespace Go.Eng
variable [SymV] [SymT]

/-- an operation made ready: what it does to the values of its operands -/
inductive Kind where
  | q (h : (Nat → Option LB) → (Operand → Value) → Option Value)
  | a (h : (Operand → Value) → Nat → Option (Value × LB))
  | e (h : (Operand → Value) → LMem → Option (LN × LMem))

def lim : IntKind → Nat
  | .i8 => 128
  | .i16 => 32768
  | .i32 => 2147483648
  | .i64 => 9223372036854775808
  | .u8 => 256
  | .u16 => 65536
  | .u32 => 4294967296
  | .u64 => 18446744073709551616

def kix : IntKind → Nat
  | .i8 => 0
  | .i16 => 1
  | .i32 => 2
  | .i64 => 3
  | .u8 => 4
  | .u16 => 5
  | .u32 => 6
  | .u64 => 7

theorem kix_inj {j k : IntKind} (h : Nat.beq (kix j) (kix k) = true) : j = k := by
  have _s := SymT.tab
  have := Nat.eq_of_beq_eq_true h
  cases j <;> cases k <;> first | rfl | (simp [kix] at this)

theorem wrap_lim {k : IntKind} {n : Nat} (h : n < lim k) : k.wrap (n : Int) = n := by
  have _s := SymT.tab
  have e : ∀ (b : Nat) (c : Nat), (2 : Int) ^ b = (c : Int) → True := fun _ _ _ => trivial
  unfold IntKind.wrap
  cases k <;> simp only [lim] at h <;> simp only [IntKind.bits, IntKind.signed] <;> simp <;> omega

abbrev NBin := IntKind → Nat → Nat → Option Value

def nAdd : NBin := fun k x y => bif Nat.blt (Nat.add x y) (lim k) then some (.int k (.ofNat (Nat.add x y))) else none
def nSub : NBin := fun k x y => bif Nat.ble y x && Nat.blt x (lim k) then some (.int k (.ofNat (Nat.sub x y))) else none
def nMul : NBin := fun k x y => bif Nat.blt (Nat.mul x y) (lim k) then some (.int k (.ofNat (Nat.mul x y))) else none
def nQuo : NBin := fun k x y => bif Nat.blt 0 y && Nat.blt x (lim k) then some (.int k (.ofNat (Nat.div x y))) else none
def nRem : NBin := fun k x y => bif Nat.blt 0 y then some (.int k (.ofNat (Nat.mod x y))) else none
def nEql : NBin := fun _ x y => some (.bool (Nat.beq x y))
def nNeq : NBin := fun _ x y => some (.bool (!Nat.beq x y))
def nLss : NBin := fun _ x y => some (.bool (Nat.blt x y))
def nLeq : NBin := fun _ x y => some (.bool (Nat.ble x y))
def nGtr : NBin := fun _ x y => some (.bool (Nat.blt y x))
def nGeq : NBin := fun _ x y => some (.bool (Nat.ble y x))
def nNone : NBin := fun _ _ _ => none

/-- the quick way of an operator on numbers that are not negative -/
def nbin : BinOp → NBin
  | .add => nAdd
  | .sub => nSub
  | .mul => nMul
  | .quo => nQuo
  | .rem => nRem
  | .eql => nEql
  | .neq => nNeq
  | .lss => nLss
  | .leq => nLeq
  | .gtr => nGtr
  | .geq => nGeq
  | _ => nNone

def withBin (op : BinOp) (K : NBin → Kind) : Kind :=
  match op with
  | .add => K nAdd
  | .sub => K nSub
  | .mul => K nMul
  | .quo => K nQuo
  | .rem => K nRem
  | .eql => K nEql
  | .neq => K nNeq
  | .lss => K nLss
  | .leq => K nLeq
  | .gtr => K nGtr
  | .geq => K nGeq
  | _ => K nNone

theorem withBin_eq (op : BinOp) (K : NBin → Kind) : withBin op K = K (nbin op) := by
  have _s := SymT.tab
  cases op <;> rfl

theorem nbin_spec {op : BinOp} {t : TypeId} {k : IntKind} {x y : Nat} {v : Value} (h : nbin op k x y = some v) : pureSem (binOp op t (.int k (.ofNat x)) (.int k (.ofNat y))) = some v := by
  have hb : ∀ {c : Bool} {u : Value}, (bif c then some u else none) = some v → c = true ∧ u = v := by
    intro c u hc
    cases c
    · cases hc
    · exact ⟨rfl, by simpa using hc⟩
  have hw : ∀ n : Nat, n < lim k → k.wrap (Int.ofNat n) = Int.ofNat n := fun n hn => wrap_lim hn
  cases op <;> simp only [nbin, nAdd, nSub, nMul, nQuo, nRem, nEql, nNeq, nLss, nLeq, nGtr, nGeq, nNone] at h <;> simp only [binOp, ne_eq, not_true, if_false]
  case add =>
    obtain ⟨h1, rfl⟩ := hb h
    simp only [Op.intArith]
    have : (Int.ofNat x + Int.ofNat y) = Int.ofNat (Nat.add x y) := rfl
    rw [this, hw _ (blt_lt h1)]; rfl
  case sub =>
    obtain ⟨h1, rfl⟩ := hb h
    rw [Bool.and_eq_true] at h1
    have h2 := Nat.le_of_ble_eq_true h1.1
    have h3 := blt_lt h1.2
    simp only [Op.intArith]
    have : (Int.ofNat x - Int.ofNat y) = Int.ofNat (Nat.sub x y) := by
      show ((x : Int) - (y : Int)) = ((x - y : Nat) : Int); omega
    rw [this, hw _ (by show x - y < lim k; omega)]; rfl
  case mul =>
    obtain ⟨h1, rfl⟩ := hb h
    simp only [Op.intArith]
    have : (Int.ofNat x * Int.ofNat y) = Int.ofNat (Nat.mul x y) := rfl
    rw [this, hw _ (blt_lt h1)]; rfl
  case quo =>
    obtain ⟨h1, rfl⟩ := hb h
    rw [Bool.and_eq_true] at h1
    have h2 := blt_lt h1.1
    have h3 := blt_lt h1.2
    simp only [Op.intDiv]
    rw [if_neg (by show ¬ ((y : Int) = 0); omega)]
    have : (Int.ofNat x).tdiv (Int.ofNat y) = Int.ofNat (Nat.div x y) := rfl
    have hle : Nat.div x y ≤ x := Nat.div_le_self x y
    rw [this, hw _ (by omega)]; rfl
  case rem =>
    obtain ⟨h1, rfl⟩ := hb h
    have h2 := blt_lt h1
    simp only [Op.intDiv]
    rw [if_neg (by show ¬ ((y : Int) = 0); omega)]
    rfl
  case eql =>
    cases h
    have : (Int.ofNat x == Int.ofNat y) = Nat.beq x y := by
      cases hq : Nat.beq x y with
      | true => rw [Nat.eq_of_beq_eq_true hq]; simp
      | false => simp; intro h'; have h2 : x = y := by omega
                 rw [h2, Nat.beq_refl] at hq; cases hq
    simp only [Op.intCmp, this]; rfl
  case neq =>
    cases h
    have : (Int.ofNat x != Int.ofNat y) = !Nat.beq x y := by
      cases hq : Nat.beq x y with
      | true => rw [Nat.eq_of_beq_eq_true hq]; simp
      | false => simp; intro h'; have h2 : x = y := by omega
                 rw [h2, Nat.beq_refl] at hq; cases hq
    simp only [Op.intCmp, this]; rfl
  case lss =>
    cases h
    have : decide (Int.ofNat x < Int.ofNat y) = Nat.blt x y := by
      cases hq : Nat.blt x y with
      | true => have := blt_lt hq; simp; omega
      | false => simp; rcases Nat.lt_or_ge x y with h' | h'
                 · rw [blt_true h'] at hq; cases hq
                 · omega
    simp only [Op.intCmp, this]; rfl
  case leq =>
    cases h
    have : decide (Int.ofNat x ≤ Int.ofNat y) = Nat.ble x y := by
      cases hq : Nat.ble x y with
      | true => have := Nat.le_of_ble_eq_true hq; simp; omega
      | false => simp; rcases Nat.lt_or_ge y x with h' | h'
                 · omega
                 · rw [Nat.ble_eq_true_of_le h'] at hq; cases hq
    simp only [Op.intCmp, this]; rfl
  case gtr =>
    cases h
    have : decide (Int.ofNat x > Int.ofNat y) = Nat.blt y x := by
      cases hq : Nat.blt y x with
      | true => have := blt_lt hq; simp; omega
      | false => simp; rcases Nat.lt_or_ge y x with h' | h'
                 · rw [blt_true h'] at hq; cases hq
                 · omega
    simp only [Op.intCmp, this]; rfl
  case geq =>
    cases h
    have : decide (Int.ofNat x ≥ Int.ofNat y) = Nat.ble y x := by
      cases hq : Nat.ble y x with
      | true => have := Nat.le_of_ble_eq_true hq; simp; omega
      | false => simp; rcases Nat.lt_or_ge x y with h' | h'
                 · omega
                 · rw [Nat.ble_eq_true_of_le h'] at hq; cases hq
    simp only [Op.intCmp, this]; rfl
  all_goals cases h

def fbin (N : NBin) (P : Program) (op : BinOp) (t : TypeId) (c : Bool) (x y : Value) : Option Value :=
  match x with
  | .int k a => match a with
    | .ofNat m => match y with
      | .int k' b => match b with
        | .ofNat n => match N k m n with
          | some v => bif Nat.beq (kix k) (kix k') then some v else lbin P op t c x y
          | none => lbin P op t c x y
        | _ => lbin P op t c x y
      | _ => lbin P op t c x y
    | _ => lbin P op t c x y
  | _ => lbin P op t c x y

theorem fbin_eq (P : Program) (op : BinOp) (t : TypeId) (c : Bool) (x y : Value) : fbin (nbin op) P op t c x y = lbin P op t c x y := by
  unfold fbin
  split
  · split
    · split
      · split
        · split
          · rename_i v hv
            cases hk : Nat.beq (kix _) (kix _) with
            | false => rfl
            | true =>
              have := kix_inj hk
              subst this
              simp only [cond_true, lbin]
              exact (nbin_spec hv).symm
          · rfl
        · rfl
      · rfl
    · rfl
  · rfl

def qpick (c a b : Value) : Option Value :=
  match c with
  | .bool true => some a
  | .bool false => some b
  | _ => none

def qnil (x : Value) : Option Value :=
  match x with
  | .pointer (some a) => some (.pointer (some a))
  | .iface t v => some (.iface t v)
  | .func (.func f) xs ys => some (.func (.func f) xs ys)
  | _ => none

def qun (op : UnOp) (x : Value) : Option Value :=
  match x with
  | .int k n => pureSem (Op.unary op (.int k n))
  | .bool b => pureSem (Op.unary op (.bool b))
  | .complex a n m => ulook op (.complex a n m) SymT.tab
  | _ => none

def qload1 (g : Nat → Option LB) (x : Value) : Option Value :=
  match x with
  | .pointer (some ⟨b, off, none⟩) => match lcells g b with
    | some c => c[off]?
    | none => none
  | _ => none

def qloadA (n : Nat) (g : Nat → Option LB) (x : Value) : Option Value :=
  match x with
  | .pointer (some ⟨b, off, none⟩) => match lcells g b with
    | some c => let vs := (c.drop off).take n; bif Nat.beq vs.length n then some (.agg ⟨vs⟩) else none
    | none => none
  | _ => none

def qoff (d : Nat) (x : Value) : Option Value :=
  match x with
  | .pointer (some ⟨b, off, none⟩) => some (.pointer (some ⟨b, Nat.add off d, none⟩))
  | _ => none

def qconvI (k : IntKind) (x : Value) : Option Value :=
  match x with
  | .int _ a => match a with
    | .ofNat m => bif Nat.blt m (lim k) then some (.int k (.ofNat m)) else some (.int k (k.wrap a))
    | _ => some (.int k (k.wrap a))
  | .complex a n m => clook k (.complex a n m) SymT.tab
  | _ => none

def qext (i : Nat) (x : Value) : Option Value :=
  match x with
  | .tuple vs => vs.toList[i]?
  | _ => none

/-- the offset of a field that takes room -/
def foff (P : Program) (s : TypeId) (f : Nat) : Option Nat :=
  match P.underlying s with
  | some (.struct fs) => match fs.toList[f]? with
    | some fd => match P.info? fd.type with
      | some i => bif Nat.beq i.size 0 then none else some fd.offset
      | none => none
    | none => none
  | _ => none

theorem foff_eq (P : Program) (s : TypeId) (x : Value) (f : Nat) : lfieldAddr P s x f = (match foff P s f with | some d => qoff d x | none => none) := by
  have _s := SymT.tab
  unfold lfieldAddr foff
  cases hu : P.underlying s with
  | none => rfl
  | some d =>
    cases d <;> try rfl
    rename_i fs
    have hx : (∃ b off, x = .pointer (some ⟨b, off, none⟩)) ∨ ((∀ b off, x ≠ .pointer (some ⟨b, off, none⟩)) ∧ ∀ d, qoff d x = none) := by
      unfold qoff
      split
      · exact Or.inl ⟨_, _, rfl⟩
      · rename_i h
        exact Or.inr ⟨fun b off hh => h b off hh, fun d => rfl⟩
    rcases hx with ⟨b, off, rfl⟩ | ⟨hx, hq⟩
    · simp only
      cases fs.toList[f]? with
      | none => rfl
      | some fd =>
        simp only
        cases P.info? fd.type with
        | none => rfl
        | some i =>
          simp only
          cases Nat.beq i.size 0 <;> rfl
    · have h1 : (match (some (TypeDesc.struct fs) : Option TypeDesc), x with
        | some (.struct fs), .pointer (some ⟨b, off, none⟩) =>
          match fs.toList[f]? with
          | some fd => match P.info? fd.type with
            | some i => bif Nat.beq i.size 0 then none else some (Value.pointer (some ⟨b, off + fd.offset, none⟩))
            | none => none
          | none => none
        | _, _ => none) = none := by
        split
        · rename_i b off _
          exact absurd rfl (hx b off)
        · rfl
      refine Eq.trans h1 ?_
      split
      · exact (hq _).symm
      · rfl

def lshape (P : Program) (t : TypeId) : Option (Bool × Nat) :=
  match P.underlying t, P.info? t with
  | some d, some i => some (isAggD d, i.size)
  | _, _ => none

def bshape (P : Program) (t : TypeId) : Option (List Value × (Nat → Option (Nat × Nat))) :=
  match P.info? t, P.underlying t with
  | some it, some (.array _ e) =>
    match it.zero, P.info? e with
    | some z, some ie => bif Nat.beq (ub z) 0 then some (z.cells.toList, fun i => some (i * ie.size, ie.size)) else none
    | _, _ => none
  | some it, some (.struct fs) =>
    match it.zero, lplaces P fs.toList with
    | some z, some places => bif Nat.beq (ub z) 0 then some (z.cells.toList, fun i => places[i]?) else none
    | _, _ => none
  | _, _ => none

theorem bshape_eq (P : Program) (t : TypeId) (parts : List (Nat × Value)) : lbuilt P t parts = (match bshape P t with | some (z, pl) => lfill pl z parts | none => none) := by
  have _s := SymT.tab
  unfold lbuilt bshape
  cases P.info? t with
  | none => rfl
  | some it =>
    cases P.underlying t with
    | none => rfl
    | some d =>
      cases d <;> try rfl
      · rename_i el
        simp only
        cases it.zero with
        | none => rfl
        | some z =>
          generalize P.info? el = q
          cases q with
          | none => rfl
          | some ie =>
            simp only
            cases Nat.beq (ub z) 0 <;> rfl
      · rename_i fs
        simp only
        cases it.zero with
        | none => rfl
        | some z =>
          generalize lplaces P fs.toList = q
          cases q with
          | none => rfl
          | some ie =>
            simp only
            cases Nat.beq (ub z) 0 <;> rfl

/-- the operation made ready -/
noncomputable def kind (P : Program) (X : ExtT) (o : Oper) : Kind :=
  match o.op with
  | .move x => .q fun _ ρ => some (ρ x)
  | .assign x => .q fun _ ρ => some (ρ x)
  | .pick c a b => .q fun _ ρ => qpick (ρ c) (ρ a) (ρ b)
  | .build t parts => match bshape P t with
    | some (z, pl) => .q fun _ ρ => (lfill pl z (parts.toList.map fun p => (p.1, ρ p.2))).map fun c => .agg ⟨c⟩
    | none => .q fun _ _ => none
  | .load t a => match lshape P t with
    | some (true, n) => .q fun g ρ => qloadA n g (ρ a)
    | some (false, _) => .q fun g ρ => qload1 g (ρ a)
    | none => .q fun _ _ => none
  | .nilCheck x => .q fun _ ρ => qnil (ρ x)
  | .binOp op t x y _ => withBin op fun N => .q fun _ ρ => fbin N P op t (isConst x || isConst y) (ρ x) (ρ y)
  | .unOp op _ x => .q fun _ ρ => qun op (ρ x)
  | .convert src dst x => match P.underlying src, P.underlying dst with
    | some _, some (.int k) => .q fun _ ρ => qconvI k (ρ x)
    | some .string, some (.slice _) => .a fun ρ n => aop P ρ ⟨o.dst, .convert src dst x, o.type, o.pos, o.after, o.guard⟩ n
    | _, _ => .q fun g ρ => lconv P g src dst (ρ x)
  | .makeInterface t x => .q fun g ρ => qop P g ρ ⟨o.dst, .makeInterface t x, o.type, o.pos, o.after, o.guard⟩
  | .makeFunc fn first captured => .q fun _ ρ => some (.func fn ⟨first.toList.map ρ⟩ ⟨captured.toList.map ρ⟩)
  | .fieldAddr s x f => match foff P s f with
    | some d => .q fun _ ρ => qoff d (ρ x)
    | none => .q fun _ _ => none
  | .field s x f => .q fun _ ρ => lfield P s (ρ x) f
  | .indexAddr t x i => .q fun _ ρ => lindexAddr P t (ρ x) (ρ i)
  | .index t x i => .q fun _ ρ => lindex P t (ρ x) (ρ i)
  | .lookup t x i ok => .q fun g ρ => llookup P g t (ρ x) (ρ i) ok
  | .extract x i => .q fun _ ρ => qext i (ρ x)
  | .slice t x lo hi mx => .q fun _ ρ => lslice P t (ρ x) (lo.map ρ) (hi.map ρ) (mx.map ρ)
  | .alloc e => .a fun ρ n => aop P ρ ⟨o.dst, .alloc e, o.type, o.pos, o.after, o.guard⟩ n
  | .box _ x => .a fun ρ n => some (.pointer (some ⟨n, 0, none⟩), .cells (ρ x).cells.toList)
  | op => bif isEff op then .e fun ρ m => eop P X ρ ⟨o.dst, op, o.type, o.pos, o.after, o.guard⟩ m
    else bif isAlcP P op then .a fun ρ n => aop P ρ ⟨o.dst, op, o.type, o.pos, o.after, o.guard⟩ n
    else .q fun g ρ => qop P g ρ ⟨o.dst, op, o.type, o.pos, o.after, o.guard⟩

theorem kind_spec (P : Program) (X : ExtT) (o : Oper) : kind P X o = (bif isEff o.op then .e fun ρ m => eop P X ρ o m else bif isAlcP P o.op then .a fun ρ n => aop P ρ o n else .q fun g ρ => qop P g ρ o) := by
  obtain ⟨dst, op, type, pos, after, guard⟩ := o
  cases op <;> try rfl
  case build t parts =>
    have : ∀ (g : Nat → Option LB) (ρ : Operand → Value), qop P g ρ ⟨dst, .build t parts, type, pos, after, guard⟩ = (match bshape P t with | some (z, pl) => (lfill pl z (parts.toList.map fun p => (p.1, ρ p.2))).map fun c => .agg ⟨c⟩ | none => none) := by
      intro g ρ
      simp only [qop, bshape_eq]
      cases bshape P t with
      | none => rfl
      | some p => rfl
    show (match bshape P t with | some (z, pl) => _ | none => _) = Kind.q _
    simp only [this]
    cases bshape P t with
    | none => rfl
    | some p => rfl
  case load t a =>
    have : ∀ (g : Nat → Option LB) (ρ : Operand → Value), qop P g ρ ⟨dst, .load t a, type, pos, after, guard⟩ = (match lshape P t with | some (true, n) => qloadA n g (ρ a) | some (false, _) => qload1 g (ρ a) | none => none) := by
      intro g ρ
      simp only [qop, lload, lshape]
      cases P.underlying t with
      | none => simp only; (repeat' split) <;> rfl
      | some d =>
        cases P.info? t with
        | none => simp only; (repeat' split) <;> rfl
        | some i =>
          simp only
          cases isAggD d with
          | true => rfl
          | false => rfl
    show (match lshape P t with | some (true, n) => _ | some (false, _) => _ | none => _) = Kind.q _
    simp only [this]
    cases lshape P t with
    | none => rfl
    | some p => obtain ⟨b, n⟩ := p; cases b <;> rfl
  case binOp bop t x y ty =>
    have h1 : kind P X ⟨dst, .binOp bop t x y ty, type, pos, after, guard⟩ = withBin bop fun N => .q fun _ ρ => fbin N P bop t (isConst x || isConst y) (ρ x) (ρ y) := rfl
    rw [h1, withBin_eq]
    simp only [fbin_eq]
    rfl
  case convert src dst' x =>
    have hk : kind P X ⟨dst, .convert src dst' x, type, pos, after, guard⟩ = (match P.underlying src, P.underlying dst' with
      | some _, some (.int k) => .q fun _ ρ => qconvI k (ρ x)
      | some .string, some (.slice _) => .a fun ρ n => aop P ρ ⟨dst, .convert src dst' x, type, pos, after, guard⟩ n
      | _, _ => .q fun g ρ => lconv P g src dst' (ρ x)) := rfl
    have hr : ∀ k d, P.underlying src = some d → P.underlying dst' = some (.int k) → ∀ (g : Nat → Option LB) (ρ : Operand → Value), qop P g ρ ⟨dst, .convert src dst' x, type, pos, after, guard⟩ = qconvI k (ρ x) := by
      intro k d h1 h2 g ρ
      simp only [qop]
      unfold lconv qconvI
      simp only [h1, h2]
      cases ρ x <;> simp
      rename_i kd n
      cases n with
      | ofNat m =>
        simp only
        cases hb : Nat.blt m (lim k) with
        | true => have hwr : k.wrap (Int.ofNat m) = Int.ofNat m := wrap_lim (blt_lt hb); simp only [cond_true, hwr]; rfl
        | false => rfl
      | negSucc m => rfl
    rw [hk]
    simp only [isEff, cond_false]
    split
    · rename_i d k h1 h2
      have ha : isAlcP P (.convert src dst' x) = false := by simp only [isAlcP, isAlc, isConvB, h1, h2, Bool.false_or]
      simp only [ha, cond_false, hr k d h1 h2]
    · rename_i e h1 h2
      have ha : isAlcP P (.convert src dst' x) = true := by simp only [isAlcP, isAlc, isConvB, h1, h2, Bool.false_or]
      simp only [ha, cond_true]
    · rename_i n1 n2
      have ha : isAlcP P (.convert src dst' x) = false := by
        simp only [isAlcP, isAlc, isConvB, Bool.false_or]
      simp only [ha, cond_false]
      rfl
  case fieldAddr s x f =>
    have : ∀ (g : Nat → Option LB) (ρ : Operand → Value), qop P g ρ ⟨dst, .fieldAddr s x f, type, pos, after, guard⟩ = (match foff P s f with | some d => qoff d (ρ x) | none => none) := by
      intro g ρ
      simp only [qop, foff_eq]
    show (match foff P s f with | some d => _ | none => _) = Kind.q _
    simp only [this]
    cases foff P s f <;> rfl

/- the fast run -/
noncomputable def putK (f : LF) (dst : Option Nat) (v : Value) (m : LMem) (k : LF → LMem → Option (LF × LMem)) : Option (LF × LMem) :=
  match f.put dst v with
  | some f' => k f' m
  | none => none

noncomputable def doK (call : CallT) (r : Option (LN × LMem)) : Option (Value × LMem) :=
  match r with
  | some (.val v, m') => some (v, m')
  | some (.enter g args, m') => call g args m'
  | none => none

noncomputable def stepF (P : Program) (X : ExtT) (call : CallT) (ops : List Oper) (o : Oper) (k : LF → LMem → Option (LF × LMem)) (f : LF) (m : LMem) : Option (LF × LMem) :=
  bif lwanted ops o f then
    match kind P X o with
    | .q h => match h m.get f.lev with
      | some v => putK f o.dst v m k
      | none => none
    | .a h => match h f.lev m.next with
      | some (v, b) => match m.alloc b with
        | some m' => putK f o.dst v m' k
        | none => none
      | none => none
    | .e h => match doK call (h f.lev m) with
      | some (v, m') => putK f o.dst v m' k
      | none => none
  else putK f o.dst undef m k

noncomputable def runSeqF (P : Program) (X : ExtT) (call : CallT) (ops : List Oper) (l : List Oper) : LF → LMem → Option (LF × LMem) :=
  List.rec (motive := fun _ => LF → LMem → Option (LF × LMem)) (fun f m => some (f, m)) (fun o _ ih f m => stepF P X call ops o ih f m) l

theorem runSeqF_eq (P : Program) (X : ExtT) (call : CallT) (ops : List Oper) : ∀ (l : List Oper) (f : LF) (m : LMem), runSeqF P X call ops l f m = runSeq P X call ops l f m
  | [], f, m => rfl
  | o :: r, f, m => by
    show stepF P X call ops o (runSeqF P X call ops r) f m = _
    have ih := runSeqF_eq P X call ops r
    have hk : runSeqF P X call ops r = runSeq P X call ops r := funext fun f => funext fun m => ih f m
    rw [hk]
    unfold stepF runSeq
    cases hw : lwanted ops o f with
    | false => rfl
    | true =>
      simp only [cond_true, kind_spec, doOp]
      cases he : isEff o.op with
      | true =>
        simp only [cond_true, doEff, doK]
        cases eop P X f.lev o m with
        | none => rfl
        | some p =>
          obtain ⟨r', m'⟩ := p
          cases r' <;> rfl
      | false =>
        simp only [cond_false]
        cases ha : isAlcP P o.op with
        | true =>
          simp only [cond_true, doAlc]
          cases aop P f.lev o m.next with
          | none => rfl
          | some p =>
            obtain ⟨v, b⟩ := p
            simp only
            cases m.alloc b <;> rfl
        | false =>
          simp only [cond_false]
          cases qop P m.get f.lev o <;> rfl

noncomputable def seqX (r : Option (LX × LF × LMem)) (k : LF → LMem → Option (LX × LF × LMem)) : Option (LX × LF × LMem) :=
  match r with
  | some (.norm, f', m') => k f' m'
  | r => r

noncomputable def regF (P : Program) (X : ExtT) (call : CallT) (ops : Array Oper) (draw : Bool) (f : LF) (m : LMem) : Option (LX × LF × LMem) :=
  bif draw then
    bif regOK ops.toList then
      (runDraw P X call ops.toList (masks ops.toList []) (regOrd ops.toList (masks ops.toList [])) f m m []).map fun r => (.norm, r.1, r.2)
    else none
  else bif ops.toList.all okOp then (runSeqF P X call ops.toList ops.toList f m).map fun r => (.norm, r.1, r.2) else none

noncomputable def condF (x : Operand) (f : LF) (a b : Option (LX × LF × LMem)) : Option (LX × LF × LMem) :=
  match x with
  | .global _ => none
  | x => match f.lev x with
    | .bool true => a
    | .bool false => b
    | _ => none

noncomputable def blockF (id : Nat) (r : Option (LX × LF × LMem)) : Option (LX × LF × LMem) :=
  match r with
  | some (.exit j, f', m') => bif Nat.beq j id then some (.norm, f', m') else some (.exit j, f', m')
  | r => r

noncomputable def stepC (P : Program) (X : ExtT) (call : CallT) (ih : Code → LF → LMem → Option (LX × LF × LMem)) (c : Code) (f : LF) (m : LMem) : Option (LX × LF × LMem) :=
  match c with
  | .skip => some (.norm, f, m)
  | .region _ ops draw => regF P X call ops draw f m
  | .seq a b => seqX (ih a f m) (ih b)
  | .cond x a b => condF x f (ih a f m) (ih b f m)
  | .block id a => blockF id (ih a f m)
  | .loop a => seqX (ih a f m) (ih (.loop a))
  | .exit id => some (.exit id, f, m)
  | .scope a => ih a f m
  | .label _ => some (.norm, f, m)
  | .ret => some (.ret, f, m)
  | _ => none

noncomputable def execF (P : Program) (X : ExtT) (call : CallT) (n : Nat) : Code → LF → LMem → Option (LX × LF × LMem) :=
  Nat.rec (motive := fun _ => Code → LF → LMem → Option (LX × LF × LMem)) (fun _ _ _ => none) (fun _ ih c f m => stepC P X call ih c f m) n

theorem execF_eq (P : Program) (X : ExtT) (call : CallT) : ∀ (n : Nat) (c : Code) (f : LF) (m : LMem), execF P X call n c f m = exec P X call n c f m
  | 0, c, f, m => rfl
  | n + 1, c, f, m => by
    show stepC P X call (execF P X call n) c f m = _
    have hk : execF P X call n = exec P X call n := funext fun c => funext fun f => funext fun m => execF_eq P X call n c f m
    rw [hk]
    cases c <;> try rfl
    case region id ops draw =>
      simp only [stepC, regF, exec]
      have : runSeqF P X call ops.toList ops.toList f m = runSeq P X call ops.toList ops.toList f m := runSeqF_eq P X call _ _ f m
      rw [this]

noncomputable def stepCall (P : Program) (X : ExtT) (prim : FuncId → Option (List Value → LMem → Option (Value × LMem))) (fuel : Nat) (ih : CallT) (g : FuncId) (args : List Value) (m : LMem) : Option (Value × LMem) :=
  match prim g with
  | some p => p args m
  | none => match P.funcs[g]? with
    | none => none
    | some fn => match fn.body with
      | none => none
      | some c =>
        bif Nat.ble args.length fn.ntmps && Nat.ble fn.ntmps 256 then
          match execF P X ih fuel c { tr := putArgs args 0 (TF.lf none), nt := fn.ntmps } m with
          | some (.norm, f', m') => (lresults P f' m' fn.results.toList).map fun vs => (ltuple vs, m')
          | some (.ret, f', m') => (lresults P f' m' fn.results.toList).map fun vs => (ltuple vs, m')
          | _ => none
        else none

noncomputable def callFF (P : Program) (X : ExtT) (prim : FuncId → Option (List Value → LMem → Option (Value × LMem))) (fuel : Nat) (n : Nat) : CallT :=
  Nat.rec (motive := fun _ => CallT) (fun _ _ _ => none) (fun _ ih g args m => stepCall P X prim fuel ih g args m) n

theorem callFF_eq (P : Program) (X : ExtT) (prim : FuncId → Option (List Value → LMem → Option (Value × LMem))) (fuel : Nat) : ∀ n, callFF P X prim fuel n = callF P X prim fuel n
  | 0 => rfl
  | n + 1 => by
    funext g args m
    show stepCall P X prim fuel (callFF P X prim fuel n) g args m = _
    rw [callFF_eq P X prim fuel n]
    simp only [stepCall, callF, execF_eq]
    rfl
end Go.Eng
