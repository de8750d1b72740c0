/- The engine: a deterministic run of the model's code on a logical memory, proved sound against 'Calls' (part 3). No condition. -/
import Derived.Test.YtkdoiehdifpihaaGreatEngQ2
import Derived.Below
import Derived.Laws.Externs
import Derived.Shelf.SlIterI.Nil
import Derived.Shelf.SortM.Plain
import Derived.Shelf.SortM.SortNone
import Derived.Recover
import Derived.OrdersIn
import Derived.LoopNIn
import Derived.RangeFuncRecord
import Derived.RangeFuncLeaves
/- The engine once more, in a form that the kernel runs faster; it is the same engine. -/
namespace Go.Eng
variable [SymV] [SymT]

/-- an operation made ready: what it does to the values of its operands -/
inductive Kind where
  | q (h : (Nat → Option LB) → (Operand → Value) → Option Value)
  | a (h : (Operand → Value) → Nat → Option (Value × LB))
  | e (h : (Operand → Value) → LMem → Option (LN × LMem))

def lim : IntKind → Nat
  | .i8 => 128
  | .i16 => 32768
  | .i32 => 2147483648
  | .i64 => 9223372036854775808
  | .u8 => 256
  | .u16 => 65536
  | .u32 => 4294967296
  | .u64 => 18446744073709551616

def kix : IntKind → Nat
  | .i8 => 0
  | .i16 => 1
  | .i32 => 2
  | .i64 => 3
  | .u8 => 4
  | .u16 => 5
  | .u32 => 6
  | .u64 => 7

theorem kix_inj {j k : IntKind} (h : Nat.beq (kix j) (kix k) = true) : j = k := by
  have _s := SymT.tab
  have := Nat.eq_of_beq_eq_true h
  cases j <;> cases k <;> first | rfl | (simp [kix] at this)

theorem wrap_lim {k : IntKind} {n : Nat} (h : n < lim k) : k.wrap (n : Int) = n := by
  have _s := SymT.tab
  have e : ∀ (b : Nat) (c : Nat), (2 : Int) ^ b = (c : Int) → True := fun _ _ _ => trivial
  unfold IntKind.wrap
  cases k <;> simp only [lim] at h <;> simp only [IntKind.bits, IntKind.signed] <;> simp <;> omega

abbrev NBin := IntKind → Nat → Nat → Option Value

def nAdd : NBin := fun k x y => bif Nat.blt (Nat.add x y) (lim k) then some (.int k (.ofNat (Nat.add x y))) else none
def nSub : NBin := fun k x y => bif Nat.ble y x && Nat.blt x (lim k) then some (.int k (.ofNat (Nat.sub x y))) else none
def nMul : NBin := fun k x y => bif Nat.blt (Nat.mul x y) (lim k) then some (.int k (.ofNat (Nat.mul x y))) else none
def nQuo : NBin := fun k x y => bif Nat.blt 0 y && Nat.blt x (lim k) then some (.int k (.ofNat (Nat.div x y))) else none
def nRem : NBin := fun k x y => bif Nat.blt 0 y then some (.int k (.ofNat (Nat.mod x y))) else none
def nEql : NBin := fun _ x y => some (.bool (Nat.beq x y))
def nNeq : NBin := fun _ x y => some (.bool (!Nat.beq x y))
def nLss : NBin := fun _ x y => some (.bool (Nat.blt x y))
def nLeq : NBin := fun _ x y => some (.bool (Nat.ble x y))
def nGtr : NBin := fun _ x y => some (.bool (Nat.blt y x))
def nGeq : NBin := fun _ x y => some (.bool (Nat.ble y x))
def nNone : NBin := fun _ _ _ => none

/-- the quick way of an operator on numbers that are not negative -/
def nbin : BinOp → NBin
  | .add => nAdd
  | .sub => nSub
  | .mul => nMul
  | .quo => nQuo
  | .rem => nRem
  | .eql => nEql
  | .neq => nNeq
  | .lss => nLss
  | .leq => nLeq
  | .gtr => nGtr
  | .geq => nGeq
  | _ => nNone

def withBin (op : BinOp) (K : NBin → Kind) : Kind :=
  match op with
  | .add => K nAdd
  | .sub => K nSub
  | .mul => K nMul
  | .quo => K nQuo
  | .rem => K nRem
  | .eql => K nEql
  | .neq => K nNeq
  | .lss => K nLss
  | .leq => K nLeq
  | .gtr => K nGtr
  | .geq => K nGeq
  | _ => K nNone

theorem withBin_eq (op : BinOp) (K : NBin → Kind) : withBin op K = K (nbin op) := by
  have _s := SymT.tab
  cases op <;> rfl

theorem nbin_spec {op : BinOp} {t : TypeId} {k : IntKind} {x y : Nat} {v : Value} (h : nbin op k x y = some v) : pureSem (binOp op t (.int k (.ofNat x)) (.int k (.ofNat y))) = some v := by
  have hb : ∀ {c : Bool} {u : Value}, (bif c then some u else none) = some v → c = true ∧ u = v := by
    intro c u hc
    cases c
    · cases hc
    · exact ⟨rfl, by simpa using hc⟩
  have hw : ∀ n : Nat, n < lim k → k.wrap (Int.ofNat n) = Int.ofNat n := fun n hn => wrap_lim hn
  cases op <;> simp only [nbin, nAdd, nSub, nMul, nQuo, nRem, nEql, nNeq, nLss, nLeq, nGtr, nGeq, nNone] at h <;> simp only [binOp, ne_eq, not_true, if_false]
  case add =>
    obtain ⟨h1, rfl⟩ := hb h
    simp only [Op.intArith]
    have : (Int.ofNat x + Int.ofNat y) = Int.ofNat (Nat.add x y) := rfl
    rw [this, hw _ (blt_lt h1)]; rfl
  case sub =>
    obtain ⟨h1, rfl⟩ := hb h
    rw [Bool.and_eq_true] at h1
    have h2 := Nat.le_of_ble_eq_true h1.1
    have h3 := blt_lt h1.2
    simp only [Op.intArith]
    have : (Int.ofNat x - Int.ofNat y) = Int.ofNat (Nat.sub x y) := by
      show ((x : Int) - (y : Int)) = ((x - y : Nat) : Int); omega
    rw [this, hw _ (by show x - y < lim k; omega)]; rfl
  case mul =>
    obtain ⟨h1, rfl⟩ := hb h
    simp only [Op.intArith]
    have : (Int.ofNat x * Int.ofNat y) = Int.ofNat (Nat.mul x y) := rfl
    rw [this, hw _ (blt_lt h1)]; rfl
  case quo =>
    obtain ⟨h1, rfl⟩ := hb h
    rw [Bool.and_eq_true] at h1
    have h2 := blt_lt h1.1
    have h3 := blt_lt h1.2
    simp only [Op.intDiv]
    rw [if_neg (by show ¬ ((y : Int) = 0); omega)]
    have : (Int.ofNat x).tdiv (Int.ofNat y) = Int.ofNat (Nat.div x y) := rfl
    have hle : Nat.div x y ≤ x := Nat.div_le_self x y
    rw [this, hw _ (by omega)]; rfl
  case rem =>
    obtain ⟨h1, rfl⟩ := hb h
    have h2 := blt_lt h1
    simp only [Op.intDiv]
    rw [if_neg (by show ¬ ((y : Int) = 0); omega)]
    rfl
  case eql =>
    cases h
    have : (Int.ofNat x == Int.ofNat y) = Nat.beq x y := by
      cases hq : Nat.beq x y with
      | true => rw [Nat.eq_of_beq_eq_true hq]; simp
      | false => simp; intro h'; have h2 : x = y := by omega
                 rw [h2, Nat.beq_refl] at hq; cases hq
    simp only [Op.intCmp, this]; rfl
  case neq =>
    cases h
    have : (Int.ofNat x != Int.ofNat y) = !Nat.beq x y := by
      cases hq : Nat.beq x y with
      | true => rw [Nat.eq_of_beq_eq_true hq]; simp
      | false => simp; intro h'; have h2 : x = y := by omega
                 rw [h2, Nat.beq_refl] at hq; cases hq
    simp only [Op.intCmp, this]; rfl
  case lss =>
    cases h
    have : decide (Int.ofNat x < Int.ofNat y) = Nat.blt x y := by
      cases hq : Nat.blt x y with
      | true => have := blt_lt hq; simp; omega
      | false => simp; rcases Nat.lt_or_ge x y with h' | h'
                 · rw [blt_true h'] at hq; cases hq
                 · omega
    simp only [Op.intCmp, this]; rfl
  case leq =>
    cases h
    have : decide (Int.ofNat x ≤ Int.ofNat y) = Nat.ble x y := by
      cases hq : Nat.ble x y with
      | true => have := Nat.le_of_ble_eq_true hq; simp; omega
      | false => simp; rcases Nat.lt_or_ge y x with h' | h'
                 · omega
                 · rw [Nat.ble_eq_true_of_le h'] at hq; cases hq
    simp only [Op.intCmp, this]; rfl
  case gtr =>
    cases h
    have : decide (Int.ofNat x > Int.ofNat y) = Nat.blt y x := by
      cases hq : Nat.blt y x with
      | true => have := blt_lt hq; simp; omega
      | false => simp; rcases Nat.lt_or_ge y x with h' | h'
                 · rw [blt_true h'] at hq; cases hq
                 · omega
    simp only [Op.intCmp, this]; rfl
  case geq =>
    cases h
    have : decide (Int.ofNat x ≥ Int.ofNat y) = Nat.ble y x := by
      cases hq : Nat.ble y x with
      | true => have := Nat.le_of_ble_eq_true hq; simp; omega
      | false => simp; rcases Nat.lt_or_ge x y with h' | h'
                 · omega
                 · rw [Nat.ble_eq_true_of_le h'] at hq; cases hq
    simp only [Op.intCmp, this]; rfl
  all_goals cases h

def fbin (N : NBin) (P : Program) (op : BinOp) (t : TypeId) (c : Bool) (x y : Value) : Option Value :=
  match x with
  | .int k a => match a with
    | .ofNat m => match y with
      | .int k' b => match b with
        | .ofNat n => match N k m n with
          | some v => bif Nat.beq (kix k) (kix k') then some v else lbin P op t c x y
          | none => lbin P op t c x y
        | _ => lbin P op t c x y
      | _ => lbin P op t c x y
    | _ => lbin P op t c x y
  | _ => lbin P op t c x y

theorem fbin_eq (P : Program) (op : BinOp) (t : TypeId) (c : Bool) (x y : Value) : fbin (nbin op) P op t c x y = lbin P op t c x y := by
  unfold fbin
  split
  · split
    · split
      · split
        · split
          · rename_i v hv
            cases hk : Nat.beq (kix _) (kix _) with
            | false => rfl
            | true =>
              have := kix_inj hk
              subst this
              simp only [cond_true, lbin]
              exact (nbin_spec hv).symm
          · rfl
        · rfl
      · rfl
    · rfl
  · rfl

def qpick (c a b : Value) : Option Value :=
  match c with
  | .bool true => some a
  | .bool false => some b
  | _ => none

def qnil (x : Value) : Option Value :=
  match x with
  | .pointer (some a) => some (.pointer (some a))
  | .iface t v => some (.iface t v)
  | .func (.func f) xs ys => some (.func (.func f) xs ys)
  | _ => none

def qun (op : UnOp) (x : Value) : Option Value :=
  match x with
  | .int k n => pureSem (Op.unary op (.int k n))
  | .bool b => pureSem (Op.unary op (.bool b))
  | .complex a n m => ulook op (.complex a n m) SymT.tab
  | _ => none

def qload1 (g : Nat → Option LB) (x : Value) : Option Value :=
  match x with
  | .pointer (some ⟨b, off, none⟩) => match lcells g b with
    | some c => c[off]?
    | none => none
  | _ => none

def qloadA (n : Nat) (g : Nat → Option LB) (x : Value) : Option Value :=
  match x with
  | .pointer (some ⟨b, off, none⟩) => match lcells g b with
    | some c => let vs := (c.drop off).take n; bif Nat.beq vs.length n then some (.agg ⟨vs⟩) else none
    | none => none
  | _ => none

def qoff (d : Nat) (x : Value) : Option Value :=
  match x with
  | .pointer (some ⟨b, off, none⟩) => some (.pointer (some ⟨b, Nat.add off d, none⟩))
  | _ => none

def qconvI (k : IntKind) (x : Value) : Option Value :=
  match x with
  | .int _ a => match a with
    | .ofNat m => bif Nat.blt m (lim k) then some (.int k (.ofNat m)) else some (.int k (k.wrap a))
    | _ => some (.int k (k.wrap a))
  | .complex a n m => clook k (.complex a n m) SymT.tab
  | _ => none

def qext (i : Nat) (x : Value) : Option Value :=
  match x with
  | .tuple vs => vs.toList[i]?
  | _ => none

/-- the offset of a field that takes room -/
def foff (P : Program) (s : TypeId) (f : Nat) : Option Nat :=
  match P.underlying s with
  | some (.struct fs) => match fs.toList[f]? with
    | some fd => match P.info? fd.type with
      | some i => bif Nat.beq i.size 0 then none else some fd.offset
      | none => none
    | none => none
  | _ => none

theorem foff_eq (P : Program) (s : TypeId) (x : Value) (f : Nat) : lfieldAddr P s x f = (match foff P s f with | some d => qoff d x | none => none) := by
  have _s := SymT.tab
  unfold lfieldAddr foff
  cases hu : P.underlying s with
  | none => rfl
  | some d =>
    cases d <;> try rfl
    rename_i fs
    have hx : (∃ b off, x = .pointer (some ⟨b, off, none⟩)) ∨ ((∀ b off, x ≠ .pointer (some ⟨b, off, none⟩)) ∧ ∀ d, qoff d x = none) := by
      unfold qoff
      split
      · exact Or.inl ⟨_, _, rfl⟩
      · rename_i h
        exact Or.inr ⟨fun b off hh => h b off hh, fun d => rfl⟩
    rcases hx with ⟨b, off, rfl⟩ | ⟨hx, hq⟩
    · simp only
      cases fs.toList[f]? with
      | none => rfl
      | some fd =>
        simp only
        cases P.info? fd.type with
        | none => rfl
        | some i =>
          simp only
          cases Nat.beq i.size 0 <;> rfl
    · have h1 : (match (some (TypeDesc.struct fs) : Option TypeDesc), x with
        | some (.struct fs), .pointer (some ⟨b, off, none⟩) =>
          match fs.toList[f]? with
          | some fd => match P.info? fd.type with
            | some i => bif Nat.beq i.size 0 then none else some (Value.pointer (some ⟨b, off + fd.offset, none⟩))
            | none => none
          | none => none
        | _, _ => none) = none := by
        split
        · rename_i b off _
          exact absurd rfl (hx b off)
        · rfl
      refine Eq.trans h1 ?_
      split
      · exact (hq _).symm
      · rfl

def lshape (P : Program) (t : TypeId) : Option (Bool × Nat) :=
  match P.underlying t, P.info? t with
  | some d, some i => some (isAggD d, i.size)
  | _, _ => none

def bshape (P : Program) (t : TypeId) : Option (List Value × (Nat → Option (Nat × Nat))) :=
  match P.info? t, P.underlying t with
  | some it, some (.array _ e) =>
    match it.zero, P.info? e with
    | some z, some ie => bif Nat.beq (ub z) 0 then some (z.cells.toList, fun i => some (i * ie.size, ie.size)) else none
    | _, _ => none
  | some it, some (.struct fs) =>
    match it.zero, lplaces P fs.toList with
    | some z, some places => bif Nat.beq (ub z) 0 then some (z.cells.toList, fun i => places[i]?) else none
    | _, _ => none
  | _, _ => none

theorem bshape_eq (P : Program) (t : TypeId) (parts : List (Nat × Value)) : lbuilt P t parts = (match bshape P t with | some (z, pl) => lfill pl z parts | none => none) := by
  have _s := SymT.tab
  unfold lbuilt bshape
  cases P.info? t with
  | none => rfl
  | some it =>
    cases P.underlying t with
    | none => rfl
    | some d =>
      cases d <;> try rfl
      · rename_i el
        simp only
        cases it.zero with
        | none => rfl
        | some z =>
          generalize P.info? el = q
          cases q with
          | none => rfl
          | some ie =>
            simp only
            cases Nat.beq (ub z) 0 <;> rfl
      · rename_i fs
        simp only
        cases it.zero with
        | none => rfl
        | some z =>
          generalize lplaces P fs.toList = q
          cases q with
          | none => rfl
          | some ie =>
            simp only
            cases Nat.beq (ub z) 0 <;> rfl

/-- the operation made ready -/
noncomputable def kind (P : Program) (X : ExtT) (o : Oper) : Kind :=
  match o.op with
  | .move x => .q fun _ ρ => some (ρ x)
  | .assign x => .q fun _ ρ => some (ρ x)
  | .pick c a b => .q fun _ ρ => qpick (ρ c) (ρ a) (ρ b)
  | .build t parts => match bshape P t with
    | some (z, pl) => .q fun _ ρ => (lfill pl z (parts.toList.map fun p => (p.1, ρ p.2))).map fun c => .agg ⟨c⟩
    | none => .q fun _ _ => none
  | .load t a => match lshape P t with
    | some (true, n) => .q fun g ρ => qloadA n g (ρ a)
    | some (false, _) => .q fun g ρ => qload1 g (ρ a)
    | none => .q fun _ _ => none
  | .nilCheck x => .q fun _ ρ => qnil (ρ x)
  | .binOp op t x y _ => withBin op fun N => .q fun _ ρ => fbin N P op t (isConst x || isConst y) (ρ x) (ρ y)
  | .unOp op _ x => .q fun _ ρ => qun op (ρ x)
  | .convert src dst x => bif Nat.beq src dst then .e fun ρ m => eop P X ρ ⟨o.dst, .convert src dst x, o.type, o.pos, o.after, o.guard⟩ m else match P.underlying src, P.underlying dst with
    | some _, some (.int k) => .q fun _ ρ => qconvI k (ρ x)
    | some .string, some (.slice _) => .a fun ρ n => aop P ρ ⟨o.dst, .convert src dst x, o.type, o.pos, o.after, o.guard⟩ n
    | _, _ => .q fun g ρ => lconv P g src dst (ρ x)
  | .makeInterface t x => .q fun g ρ => qop P g ρ ⟨o.dst, .makeInterface t x, o.type, o.pos, o.after, o.guard⟩
  | .makeFunc fn first captured => .q fun _ ρ => some (.func fn ⟨first.toList.map ρ⟩ ⟨captured.toList.map ρ⟩)
  | .fieldAddr s x f => match foff P s f with
    | some d => .q fun _ ρ => qoff d (ρ x)
    | none => .q fun _ _ => none
  | .field s x f => .q fun _ ρ => lfield P s (ρ x) f
  | .indexAddr t x i => .q fun _ ρ => lindexAddr P t (ρ x) (ρ i)
  | .index t x i => .q fun _ ρ => lindex P t (ρ x) (ρ i)
  | .lookup t x i ok => .q fun g ρ => llookup P g t (ρ x) (ρ i) ok
  | .extract x i => .q fun _ ρ => qext i (ρ x)
  | .slice t x lo hi mx => .q fun _ ρ => lslice P t (ρ x) (lo.map ρ) (hi.map ρ) (mx.map ρ)
  | .alloc e => .a fun ρ n => aop P ρ ⟨o.dst, .alloc e, o.type, o.pos, o.after, o.guard⟩ n
  | .box _ x => .a fun ρ n => some (.pointer (some ⟨n, 0, none⟩), .cells (ρ x).cells.toList)
  | op => bif isEff op then .e fun ρ m => eop P X ρ ⟨o.dst, op, o.type, o.pos, o.after, o.guard⟩ m
    else bif isAlcP P op then .a fun ρ n => aop P ρ ⟨o.dst, op, o.type, o.pos, o.after, o.guard⟩ n
    else .q fun g ρ => qop P g ρ ⟨o.dst, op, o.type, o.pos, o.after, o.guard⟩

theorem kind_spec (P : Program) (X : ExtT) (o : Oper) : kind P X o = (bif isEff o.op then .e fun ρ m => eop P X ρ o m else bif isAlcP P o.op then .a fun ρ n => aop P ρ o n else .q fun g ρ => qop P g ρ o) := by
  obtain ⟨dst, op, type, pos, after, guard⟩ := o
  cases op <;> try rfl
  case build t parts =>
    have : ∀ (g : Nat → Option LB) (ρ : Operand → Value), qop P g ρ ⟨dst, .build t parts, type, pos, after, guard⟩ = (match bshape P t with | some (z, pl) => (lfill pl z (parts.toList.map fun p => (p.1, ρ p.2))).map fun c => .agg ⟨c⟩ | none => none) := by
      intro g ρ
      simp only [qop, bshape_eq]
      cases bshape P t with
      | none => rfl
      | some p => rfl
    show (match bshape P t with | some (z, pl) => _ | none => _) = Kind.q _
    simp only [this]
    cases bshape P t with
    | none => rfl
    | some p => rfl
  case load t a =>
    have : ∀ (g : Nat → Option LB) (ρ : Operand → Value), qop P g ρ ⟨dst, .load t a, type, pos, after, guard⟩ = (match lshape P t with | some (true, n) => qloadA n g (ρ a) | some (false, _) => qload1 g (ρ a) | none => none) := by
      intro g ρ
      simp only [qop, lload, lshape]
      cases P.underlying t with
      | none => simp only; (repeat' split) <;> rfl
      | some d =>
        cases P.info? t with
        | none => simp only; (repeat' split) <;> rfl
        | some i =>
          simp only
          cases isAggD d with
          | true => rfl
          | false => rfl
    show (match lshape P t with | some (true, n) => _ | some (false, _) => _ | none => _) = Kind.q _
    simp only [this]
    cases lshape P t with
    | none => rfl
    | some p => obtain ⟨b, n⟩ := p; cases b <;> rfl
  case binOp bop t x y ty =>
    have h1 : kind P X ⟨dst, .binOp bop t x y ty, type, pos, after, guard⟩ = withBin bop fun N => .q fun _ ρ => fbin N P bop t (isConst x || isConst y) (ρ x) (ρ y) := rfl
    rw [h1, withBin_eq]
    simp only [fbin_eq]
    rfl
  case convert src dst' x =>
    have hk : kind P X ⟨dst, .convert src dst' x, type, pos, after, guard⟩ = (bif Nat.beq src dst' then .e fun ρ m => eop P X ρ ⟨dst, .convert src dst' x, type, pos, after, guard⟩ m else match P.underlying src, P.underlying dst' with
      | some _, some (.int k) => .q fun _ ρ => qconvI k (ρ x)
      | some .string, some (.slice _) => .a fun ρ n => aop P ρ ⟨dst, .convert src dst' x, type, pos, after, guard⟩ n
      | _, _ => .q fun g ρ => lconv P g src dst' (ρ x)) := rfl
    cases hsd : Nat.beq src dst' with
    | true =>
      rw [hk]
      simp only [isEff, hsd, cond_true]
    | false =>
    have hr : ∀ k d, P.underlying src = some d → P.underlying dst' = some (.int k) → ∀ (g : Nat → Option LB) (ρ : Operand → Value), qop P g ρ ⟨dst, .convert src dst' x, type, pos, after, guard⟩ = qconvI k (ρ x) := by
      intro k d h1 h2 g ρ
      simp only [qop]
      unfold lconv qconvI
      simp only [h1, h2]
      cases ρ x <;> simp
      rename_i kd n
      cases n with
      | ofNat m =>
        simp only
        cases hb : Nat.blt m (lim k) with
        | true => have hwr : k.wrap (Int.ofNat m) = Int.ofNat m := wrap_lim (blt_lt hb); simp only [cond_true, hwr]; rfl
        | false => rfl
      | negSucc m => rfl
    rw [hk]
    simp only [isEff, hsd, cond_false]
    split
    · rename_i d k h1 h2
      have ha : isAlcP P (.convert src dst' x) = false := by simp only [isAlcP, isAlc, isConvB, h1, h2, Bool.false_or]
      simp only [ha, cond_false, hr k d h1 h2]
    · rename_i e h1 h2
      have ha : isAlcP P (.convert src dst' x) = true := by simp only [isAlcP, isAlc, isConvB, h1, h2, Bool.false_or]
      simp only [ha, cond_true]
    · rename_i n1 n2
      have ha : isAlcP P (.convert src dst' x) = false := by
        simp only [isAlcP, isAlc, isConvB, Bool.false_or]
      simp only [ha, cond_false]
      rfl
  case fieldAddr s x f =>
    have : ∀ (g : Nat → Option LB) (ρ : Operand → Value), qop P g ρ ⟨dst, .fieldAddr s x f, type, pos, after, guard⟩ = (match foff P s f with | some d => qoff d (ρ x) | none => none) := by
      intro g ρ
      simp only [qop, foff_eq]
    show (match foff P s f with | some d => _ | none => _) = Kind.q _
    simp only [this]
    cases foff P s f <;> rfl

/- the fast run -/
noncomputable def putK (f : LF) (dst : Option Nat) (v : Value) (m : LMem) (k : LF → LMem → Option (LF × LMem)) : Option (LF × LMem) :=
  match f.put dst v with
  | some f' => k f' m
  | none => none

noncomputable def doK (call : CallT) (r : Option (LN × LMem)) : Option (Value × LMem) :=
  match r with
  | some (.val v, m') => some (v, m')
  | some (.enter g args, m') => call g args m'
  | none => none

noncomputable def stepF (P : Program) (X : ExtT) (call : CallT) (ops : List Oper) (o : Oper) (k : LF → LMem → Option (LF × LMem)) (f : LF) (m : LMem) : Option (LF × LMem) :=
  bif lwanted ops o f then
    match kind P X o with
    | .q h => match h m.get f.lev with
      | some v => putK f o.dst v m k
      | none => none
    | .a h => match h f.lev m.next with
      | some (v, b) => match m.alloc b with
        | some m' => putK f o.dst v m' k
        | none => none
      | none => none
    | .e h => match doK call (h f.lev m) with
      | some (v, m') => putK f o.dst v m' k
      | none => none
  else putK f o.dst undef m k

noncomputable def runSeqF (P : Program) (X : ExtT) (call : CallT) (ops : List Oper) (l : List Oper) : LF → LMem → Option (LF × LMem) :=
  List.rec (motive := fun _ => LF → LMem → Option (LF × LMem)) (fun f m => some (f, m)) (fun o _ ih f m => stepF P X call ops o ih f m) l

theorem runSeqF_eq (P : Program) (X : ExtT) (call : CallT) (ops : List Oper) : ∀ (l : List Oper) (f : LF) (m : LMem), runSeqF P X call ops l f m = runSeq P X call ops l f m
  | [], f, m => rfl
  | o :: r, f, m => by
    show stepF P X call ops o (runSeqF P X call ops r) f m = _
    have ih := runSeqF_eq P X call ops r
    have hk : runSeqF P X call ops r = runSeq P X call ops r := funext fun f => funext fun m => ih f m
    rw [hk]
    unfold stepF runSeq
    cases hw : lwanted ops o f with
    | false => rfl
    | true =>
      simp only [cond_true, kind_spec, doOp]
      cases he : isEff o.op with
      | true =>
        simp only [cond_true, doEff, doK]
        cases eop P X f.lev o m with
        | none => rfl
        | some p =>
          obtain ⟨r', m'⟩ := p
          cases r' <;> rfl
      | false =>
        simp only [cond_false]
        cases ha : isAlcP P o.op with
        | true =>
          simp only [cond_true, doAlc]
          cases aop P f.lev o m.next with
          | none => rfl
          | some p =>
            obtain ⟨v, b⟩ := p
            simp only
            cases m.alloc b <;> rfl
        | false =>
          simp only [cond_false]
          cases qop P m.get f.lev o <;> rfl

noncomputable def seqX (r : Option (LX × LF × LMem)) (k : LF → LMem → Option (LX × LF × LMem)) : Option (LX × LF × LMem) :=
  match r with
  | some (.norm, f', m') => k f' m'
  | r => r

noncomputable def regF (P : Program) (X : ExtT) (call : CallT) (ops : Array Oper) (draw : Bool) (f : LF) (m : LMem) : Option (LX × LF × LMem) :=
  bif draw then
    bif regOK ops.toList then
      (runDraw P X call ops.toList (masks ops.toList []) (regOrd ops.toList (masks ops.toList [])) f m m []).map fun r => (.norm, r.1, r.2)
    else none
  else bif ops.toList.all okOp then (runSeqF P X call ops.toList ops.toList f m).map fun r => (.norm, r.1, r.2) else none

noncomputable def condF (x : Operand) (f : LF) (a b : Option (LX × LF × LMem)) : Option (LX × LF × LMem) :=
  match x with
  | .global _ => none
  | x => match f.lev x with
    | .bool true => a
    | .bool false => b
    | _ => none

noncomputable def blockF (id : Nat) (r : Option (LX × LF × LMem)) : Option (LX × LF × LMem) :=
  match r with
  | some (.exit j, f', m') => bif Nat.beq j id then some (.norm, f', m') else some (.exit j, f', m')
  | r => r

noncomputable def stepC (P : Program) (X : ExtT) (call : CallT) (ih : Code → LF → LMem → Option (LX × LF × LMem)) (c : Code) (f : LF) (m : LMem) : Option (LX × LF × LMem) :=
  match c with
  | .skip => some (.norm, f, m)
  | .region _ ops draw => regF P X call ops draw f m
  | .seq a b => seqX (ih a f m) (ih b)
  | .cond x a b => condF x f (ih a f m) (ih b f m)
  | .block id a => blockF id (ih a f m)
  | .loop a => seqX (ih a f m) (ih (.loop a))
  | .exit id => some (.exit id, f, m)
  | .scope a => ih a f m
  | .label _ => some (.norm, f, m)
  | .ret => some (.ret, f, m)
  | _ => none

noncomputable def execF (P : Program) (X : ExtT) (call : CallT) (n : Nat) : Code → LF → LMem → Option (LX × LF × LMem) :=
  Nat.rec (motive := fun _ => Code → LF → LMem → Option (LX × LF × LMem)) (fun _ _ _ => none) (fun _ ih c f m => stepC P X call ih c f m) n

theorem execF_eq (P : Program) (X : ExtT) (call : CallT) : ∀ (n : Nat) (c : Code) (f : LF) (m : LMem), execF P X call n c f m = exec P X call n c f m
  | 0, c, f, m => rfl
  | n + 1, c, f, m => by
    show stepC P X call (execF P X call n) c f m = _
    have hk : execF P X call n = exec P X call n := funext fun c => funext fun f => funext fun m => execF_eq P X call n c f m
    rw [hk]
    cases c <;> try rfl
    case region id ops draw =>
      simp only [stepC, regF, exec]
      have : runSeqF P X call ops.toList ops.toList f m = runSeq P X call ops.toList ops.toList f m := runSeqF_eq P X call _ _ f m
      rw [this]

noncomputable def stepCall (P : Program) (X : ExtT) (prim : FuncId → Option (List Value → LMem → Option (Value × LMem))) (fuel : Nat) (ih : CallT) (g : FuncId) (args : List Value) (m : LMem) : Option (Value × LMem) :=
  match prim g with
  | some p => p args m
  | none => match P.funcs[g]? with
    | none => none
    | some fn => match fn.body with
      | none => none
      | some c =>
        bif Nat.ble args.length fn.ntmps && Nat.ble fn.ntmps 512 then
          match execF P X ih fuel c { tr := putArgs args 0 (FT.lf none), nt := fn.ntmps } m with
          | some (.norm, f', m') => (lresults P f' m' fn.results.toList).map fun vs => (ltuple vs, m')
          | some (.ret, f', m') => (lresults P f' m' fn.results.toList).map fun vs => (ltuple vs, m')
          | _ => none
        else none

noncomputable def callFF (P : Program) (X : ExtT) (prim : FuncId → Option (List Value → LMem → Option (Value × LMem))) (fuel : Nat) (n : Nat) : CallT :=
  Nat.rec (motive := fun _ => CallT) (fun _ _ _ => none) (fun _ ih g args m => stepCall P X prim fuel ih g args m) n

theorem callFF_eq (P : Program) (X : ExtT) (prim : FuncId → Option (List Value → LMem → Option (Value × LMem))) (fuel : Nat) : ∀ n, callFF P X prim fuel n = callF P X prim fuel n
  | 0 => rfl
  | n + 1 => by
    funext g args m
    show stepCall P X prim fuel (callFF P X prim fuel n) g args m = _
    rw [callFF_eq P X prim fuel n]
    simp only [stepCall, callF, execF_eq]
    rfl
end Go.Eng
/- From a closed run to the call: what the engine's answer says of the program. -/
namespace Go.Eng
open Go.RowKit
variable [SymV] [SymT]

def m0 : LMem := ⟨TM.lf none, 0⟩

theorem m0_get (id : Nat) : m0.get id = none := by
  have _s := SymT.tab
  exact LMem.get_none (Nat.zero_le _)

theorem m0_wf : WF m0 := ⟨Nat.zero_le _, fun id b h => by rw [m0_get] at h; cases h⟩

/-- a call without arguments that answers true and leaves alone what was there -/
def Trues (P : Program) (f : FuncId) : Prop :=
  ∀ w, Calls P f #[] w fun e w' => e = .returned (.bool true) ∧ Below w.heap.size w w'

noncomputable def isTrue (r : Option (Value × LMem)) : Bool :=
  match r with
  | some (v, _) => match v with
    | .bool b => b
    | _ => false
  | none => false

theorem isTrue_some {r : Option (Value × LMem)} (h : isTrue r = true) : ∃ m, r = some (.bool true, m) := by
  have _s := SymT.tab
  unfold isTrue at h
  split at h
  · split at h
    · subst h; exact ⟨_, rfl⟩
    · cases h
  · cases h

theorem trues_of {P : Program} {X : ExtT} (hP : POK P X) {prim : FuncId → Option (List Value → LMem → Option (Value × LMem))} (hp : PrimOK P prim) {fuel n : Nat} {f : FuncId}
    (h : isTrue (callFF P X prim fuel n f [] m0) = true) : Trues P f := by
  intro w
  obtain ⟨m, hm⟩ := isTrue_some h
  rw [callFF_eq] at hm
  have hs := (call_sound hP hp fuel n f [] m0 _ _ hm m0_wf).2 (fun _ => none) w []
    ⟨fun id l h => (by cases h), fun id h => (by cases h), fun id jd l l' h => (by cases h)⟩ (fun id h => absurd rfl h) .nil
  refine hs.mono fun e w' ⟨v', φ', he, hsim, hv, _, _⟩ => ?_
  cases hv
  exact ⟨he, hsim.fr.os, hsim.fr.tape, hsim.fr.output, hsim.fr.size, fun k hk => hsim.fr.same k hk fun id l h => by cases h⟩

/-- the primitive of such a call -/
def primTrue : List Value → LMem → Option (Value × LMem) := fun args m =>
  match args with
  | [] => some (.bool true, m)
  | _ => none

theorem primTrue_ok {P : Program} {g : FuncId} (hg : Trues P g) : ∀ args m v m', primTrue args m = some (v, m') → WF m → (m.next ≤ m'.next ∧ WF m') ∧
    ∀ φ w args', MR φ m.get w → Bd φ m.next → VRL φ args args' → Calls P g ⟨args'⟩ w (CallPost m m' v φ w) := by
  have _s := SymT.tab
  have _s := SymT.tab
  intro args m v m' h hw
  cases args with
  | cons a r => cases h
  | nil =>
    cases h
    refine ⟨⟨Nat.le_refl _, hw⟩, fun φ w args' hm hb ha => ?_⟩
    cases ha
    refine (hg w).mono fun e w' ⟨he, bel⟩ => ?_
    refine ⟨.bool true, φ, he, ⟨Ext.refl φ, fun id l h => .inl ⟨id, l, h, rfl⟩, fun _ _ h => h, ⟨bel.os, bel.tape, bel.output, bel.size, fun k hk _ => bel.block k hk⟩⟩, .bool true, ⟨fun id l h => ?_, hm.dead, hm.inj⟩, hb⟩
    obtain ⟨b, h1, h2⟩ := hm.live id l h
    exact ⟨b, h1, h2.mono (Ext.refl φ) (bel.block _ h2.lt)⟩

theorem noPrim (P : Program) : PrimOK P (fun _ => none) := by
  have _s := SymT.tab
  exact fun _ _ h => by cases h

/-- one primitive -/
def prim1 (g : FuncId) (p : List Value → LMem → Option (Value × LMem)) : FuncId → Option (List Value → LMem → Option (Value × LMem)) :=
  fun f => bif Nat.beq f g then some p else none

theorem prim1_ok {P : Program} {g : FuncId} (hg : Trues P g) : PrimOK P (prim1 g primTrue) := by
  intro f p h
  unfold prim1 at h
  cases hb : Nat.beq f g with
  | false => rw [hb] at h; cases h
  | true =>
    rw [hb] at h
    cases h
    have := Nat.eq_of_beq_eq_true hb
    subst this
    exact primTrue_ok hg

/- the two numbers of math/bits -/
theorem three_run {P : Program} (name : String) (k1 k2 k3 : IntKind) (x y c : Int) (w : World) (hc : c.toNat ≤ 1) :
    Sem.run P (Extern.MathBitsCarry.three name ⟨[.int k1 x, .int k2 y, .int k3 c]⟩) w = .ok (x.toNat, y.toNat, c.toNat) w := by
  have _s := SymT.tab
  have h3 : Extern.MathBitsCarry.three name ⟨[.int k1 x, .int k2 y, .int k3 c]⟩ = (do
    let c' := (← asInt (.int k3 c)).toNat
    if c' > 1 then unsupported (.noEntry ("extern/math/bits." ++ name ++ ": a carry that is neither 0 nor 1"))
    pure ((← asInt (.int k1 x)).toNat, (← asInt (.int k2 y)).toNat, c')) := rfl
  rw [h3]
  have ha : ∀ (k : IntKind) (z : Int), Sem.run P (asInt (.int k z)) w = .ok z w := fun _ _ => rfl
  simp only [ha, Sem.run_bind, Result.andThen]
  rw [if_neg (by omega)]
  simp only [ha, Sem.run_bind, Sem.run_pure, Result.andThen]

theorem add_run {P : Program} {f : FuncId} {fn : Func} (hf : P.funcs[f]? = some fn) (hname : (fn.name == "runtime.NumGoroutine") = false)
    (hb : fn.body.isNone = true) (hn : Extern.findNext fn = none) (he : Extern.find fn = some (fun args => do
      let (x, y, c) ← Extern.MathBitsCarry.three "Add64" args
      pure (Extern.MathBitsCarry.pair ((x + y + c) % Extern.MathBitsCarry.m64) ((x + y + c) / Extern.MathBitsCarry.m64)))) :
    ∀ args v w, ladd args = some v → (callFunc f ⟨args⟩).run P w = .ok (.value v) w := by
  intro args v w h
  rw [run_callFunc_extern hf hname hb hn he]
  unfold ladd at h
  split at h
  · rename_i k1 x k2 y k3 c
    cases hc : Nat.ble c.toNat 1 with
    | false => simp [hc] at h
    | true =>
      simp only [hc, cond_true, Option.some.injEq] at h
      subst h
      have hc1 := Nat.le_of_ble_eq_true hc
      have : c.toNat = 0 ∨ c.toNat = 1 := by omega
      have key : ∀ k : Nat, k ≤ 1 → c.toNat = k → Sem.run P (do
        let (x, y, c) ← Extern.MathBitsCarry.three "Add64" ⟨[.int k1 x, .int k2 y, .int k3 c]⟩
        pure (Extern.MathBitsCarry.pair ((x + y + c) % Extern.MathBitsCarry.m64) ((x + y + c) / Extern.MathBitsCarry.m64))) w =
          .ok (Extern.MathBitsCarry.pair ((x.toNat + y.toNat + k) % Extern.MathBitsCarry.m64) ((x.toNat + y.toNat + k) / Extern.MathBitsCarry.m64)) w := by
        intro k hk hck
        rw [Sem.run_bind, three_run _ _ _ _ _ _ _ _ (by omega), hck]
        rfl
      rw [key _ hc1 rfl]
      rfl
  · cases h

theorem sub_run {P : Program} {f : FuncId} {fn : Func} (hf : P.funcs[f]? = some fn) (hname : (fn.name == "runtime.NumGoroutine") = false)
    (hb : fn.body.isNone = true) (hn : Extern.findNext fn = none) (he : Extern.find fn = some (fun args => do
      let (x, y, b) ← Extern.MathBitsCarry.three "Sub64" args
      pure (Extern.MathBitsCarry.pair ((x + Extern.MathBitsCarry.m64 - y - b) % Extern.MathBitsCarry.m64) (if x < y + b then 1 else 0)))) :
    ∀ args v w, lsub args = some v → (callFunc f ⟨args⟩).run P w = .ok (.value v) w := by
  intro args v w h
  rw [run_callFunc_extern hf hname hb hn he]
  unfold lsub at h
  split at h
  · rename_i k1 x k2 y k3 c
    cases hc : Nat.ble c.toNat 1 with
    | false => simp [hc] at h
    | true =>
      simp only [hc, cond_true, Option.some.injEq] at h
      subst h
      have hc1 := Nat.le_of_ble_eq_true hc
      have key : ∀ k : Nat, k ≤ 1 → c.toNat = k → Sem.run P (do
        let (x, y, b) ← Extern.MathBitsCarry.three "Sub64" ⟨[.int k1 x, .int k2 y, .int k3 c]⟩
        pure (Extern.MathBitsCarry.pair ((x + Extern.MathBitsCarry.m64 - y - b) % Extern.MathBitsCarry.m64) (if x < y + b then 1 else 0))) w =
          .ok (Extern.MathBitsCarry.pair ((x.toNat + Extern.MathBitsCarry.m64 - y.toNat - k) % Extern.MathBitsCarry.m64) (if x.toNat < y.toNat + k then 1 else 0)) w := by
        intro k hk hck
        rw [Sem.run_bind, three_run _ _ _ _ _ _ _ _ (by omega), hck]
        rfl
      rw [key _ hc1 rfl]
      rfl
  · cases h

/-- no function of this name, seen by going through them -/
noncomputable def noName (l : List Func) : Bool := List.rec (motive := fun _ => Bool) true (fun f _ ih => bif f.name == "runtime.NumGoroutine" then false else ih) l

theorem noName_all : ∀ {l : List Func}, noName l = true → ∀ f ∈ l, (f.name == "runtime.NumGoroutine") = false
  | [], _, f, h => by have _s := SymT.tab; cases h
  | x :: r, hn, f, h => by
    have hn' : (bif x.name == "runtime.NumGoroutine" then false else noName r) = true := hn
    cases hx : (x.name == "runtime.NumGoroutine") with
    | true => rw [hx] at hn'; cases hn'
    | false =>
      rw [hx] at hn'
      rcases List.mem_cons.1 h with rfl | h
      · exact hx
      · exact noName_all hn' f h

theorem clone_run {P : Program} {f : FuncId} {fn : Func} (hf : P.funcs[f]? = some fn) (hname : (fn.name == "runtime.NumGoroutine") = false)
    (hb : fn.body.isNone = true) (hn : Extern.findNext fn = none) (he : Extern.find fn = some Extern.MapsClone.clone) :
    ∀ t r w es ck, w.heap[r]? = some (.map es ck) → (callFunc f ⟨[.iface t (.map (some r))]⟩).run P w = .ok (.value (.iface t (.map (some w.heap.size)))) (w.alloc (.map es ck)) := by
  have _s := SymT.tab
  intro t r w es ck h
  rw [run_callFunc_extern hf hname hb hn he]
  have hc : Extern.MapsClone.clone ⟨[.iface t (.map (some r))]⟩ = (do
    let .map entries clock ← getObj r | stuck "maps.clone: a map expected"
    pure (.iface t (.map (some (← newObj (.map entries clock)))))) := rfl
  rw [hc]
  have h1 : (getObj r).run P w = .ok (.map es ck) w := MapKept.run_getObj_map h
  have h2 : (newObj (.map es ck)).run P w = .ok w.heap.size (w.alloc (.map es ck)) := rfl
  simp only [Sem.run_bind, h1, h2, Result.andThen_ok, Sem.run_pure]

/-- nothing that is not known -/
instance noSymV : SymV := ⟨fun _ => .int .i64 0, fun _ => rfl⟩
instance noSymT [SymV] : SymT := ⟨[], fun _ h => by cases h⟩
end Go.Eng
/- Arguments that no run looks into: structs of integers, bools and slices, as the engine is handed them. -/
namespace Go.Eng
open Go.RowKit
variable [SymV] [SymT]

inductive Sh where
  | int (k : IntKind)
  | bool
  | slice

def shOf (P : Program) (t : TypeId) : Option Sh :=
  match P.underlying t with
  | some (.int k) => some (.int k)
  | some .bool => some .bool
  | some (.slice _) => some .slice
  | _ => none

def shAll (P : Program) : List TypeId → Option (List Sh)
  | [] => some []
  | t :: r => match shOf P t with
    | none => none
    | some s => match shAll P r with
      | none => none
      | some l => some (s :: l)

def shs (P : Program) (t : TypeId) : Option (List Sh) :=
  match P.cellTypes P.depth t with
  | some ts => shAll P ts
  | none => none

/-- a cell of that shape -/
def Fits1 : Sh → Value → Prop
  | .int k, v => ∃ n, v = .int k n ∧ k.has n
  | .bool, v => ∃ b, v = .bool b
  | .slice, v => v = .slice none 0 0 ∨ ∃ a len cap, v = .slice (some a) len cap ∧ len ≤ cap

inductive FitsL : List Sh → List Value → Prop where
  | nil : FitsL [] []
  | cons (s : Sh) (v : Value) (l : List Sh) (vs : List Value) : Fits1 s v → FitsL l vs → FitsL (s :: l) (v :: vs)

theorem fits1_of {P : Program} {w : World} {r : Reach} {base : Nat} {t : TypeId} {s : Sh} {v : Value} (hs : shOf P t = some s) (h : Cell.okWide P w r base t v) : Fits1 s v := by
  have _s := SymT.tab
  unfold shOf at hs
  split at hs <;> cases hs
  · rename_i k hu
    simp only [Cell.okWide, hu] at h
    cases v <;> simp_all [Cell.ok, Fits1]
  · rename_i hu
    simp only [Cell.okWide, hu] at h
    cases v <;> simp_all [Cell.ok, Fits1]
  · rename_i e hu
    simp only [Cell.okWide, hu] at h
    cases v <;> try (simp_all [Cell.ok]; done)
    rename_i a len cap
    cases a with
    | none =>
      left
      unfold Cell.ok at h
      rw [hu] at h
      split at h <;> simp_all
    | some a =>
      right
      unfold Cell.ok at h
      rw [hu] at h
      simp only at h
      exact ⟨a, len, cap, rfl, h.1⟩

theorem fitsL_of {P : Program} {w : World} {r : Reach} {base : Nat} : ∀ (ts : List TypeId) (l : List Sh) (vs : List Value), shAll P ts = some l → vs.length = ts.length →
    (∀ (i : Nat) (v : Value), vs[i]? = some v → ∃ u, ts[i]? = some u ∧ Cell.okWide P w r base u v) → FitsL l vs
  | [], l, vs, hl, hn, _ => by
    cases hl
    cases vs with
    | nil => exact .nil
    | cons x r => simp at hn
  | t :: ts, l, vs, hl, hn, h => by
    cases vs with
    | nil => simp at hn
    | cons v vs =>
      simp only [shAll] at hl
      split at hl
      · cases hl
      · rename_i s hs
        split at hl
        · cases hl
        · rename_i l' hl'
          cases hl
          obtain ⟨u, hu, hv⟩ := h 0 v rfl
          cases hu
          refine .cons _ _ _ _ (fits1_of hs hv) (fitsL_of (w := w) (r := r) (base := base) ts l' vs hl' (by simpa using hn) fun i x hx => ?_)
          exact h (i + 1) x (by simpa using hx)

theorem fits_struct {P : Program} {w : World} {r : Reach} {base : Nat} {t : TypeId} {l : List Sh} {v : Value} (hu : ∃ fs, P.underlying t = some (.struct fs)) (hl : shs P t = some l) (hn : P.cellsOf t = l.length)
    (h : Value.okWide P w r base t v) : ∃ cs, v = .agg cs ∧ FitsL l cs.toList := by
  obtain ⟨fs, hu⟩ := hu
  simp only [Value.okWide, hu] at h
  obtain ⟨cs, rfl, hsz, ts, hts, ⟨n, hm⟩, hc⟩ := h
  refine ⟨cs, rfl, ?_⟩
  unfold shs at hl
  rw [hts] at hl
  have hlen : ∀ (ts : List TypeId) (l : List Sh), shAll P ts = some l → l.length = ts.length := by
    intro ts
    induction ts with
    | nil => intro l h; cases h; rfl
    | cons t r ih =>
      intro l h
      simp only [shAll] at h
      split at h
      · cases h
      · split at h
        · cases h
        · rename_i l' hl'
          cases h
          simp [ih l' hl']
  have hll := hlen ts l hl
  refine fitsL_of (w := w) (r := r) (base := base) ts l cs.toList hl (by rw [Array.length_toList, hsz, hn, hll]) fun i x hx => ?_
  have hx' : cs[i]? = some x := by simpa using hx
  obtain ⟨u, hu', hv⟩ := hc i x hx'
  have hi : i < cs.size := (Array.getElem?_eq_some_iff.1 hx').1
  rw [Nat.mod_eq_of_lt (by omega)] at hu'
  exact ⟨u, hu', hv⟩

/-- the logical cells: integers and bools by number, slices dead or nil -/
def lmk : List Sh → (Nat → Int) → (Nat → Bool) → List (Option (Nat × Nat)) → List Value
  | [], _, _, _ => []
  | .int k :: r, n, b, sl => .int k (n 0) :: lmk r (fun i => n (i + 1)) b sl
  | .bool :: r, n, b, sl => .bool (b 0) :: lmk r n (fun i => b (i + 1)) sl
  | .slice :: r, n, b, sl => match sl with
    | [] => []
    | none :: sl => .slice none 0 0 :: lmk r n b sl
    | some (len, cap) :: sl => .slice (some ⟨0, 0, none⟩) len cap :: lmk r n b sl

def slices : List Sh → Nat
  | [] => 0
  | .slice :: r => slices r + 1
  | _ :: r => slices r

theorem fits_mk {φ : Phi} (hφ : φ 0 = some none) {l : List Sh} {vs : List Value} (h : FitsL l vs) : ∃ n b sl, sl.length = slices l ∧ (∀ x ∈ sl, ∀ y, x = some y → y.1 ≤ y.2) ∧ VRL φ (lmk l n b sl) vs := by
  have _s := SymT.tab
  have _s := SymT.tab
  induction h with
  | nil => exact ⟨fun _ => 0, fun _ => false, [], rfl, by simp, .nil⟩
  | cons s v l vs h1 _ ih =>
    obtain ⟨n, b, sl, i1, i2, i3⟩ := ih
    cases s with
    | int k =>
      obtain ⟨x, rfl, _⟩ := h1
      exact ⟨fun i => Nat.casesOn i x n, b, sl, i1, i2, .cons _ _ _ _ (.int k x) i3⟩
    | bool =>
      obtain ⟨x, rfl⟩ := h1
      exact ⟨n, fun i => Nat.casesOn i x b, sl, i1, i2, .cons _ _ _ _ (.bool x) i3⟩
    | slice =>
      rcases h1 with rfl | ⟨a, len, cap, rfl, hle⟩
      · exact ⟨n, b, none :: sl, by simp [slices, i1], by
          intro x hx y hy
          rcases List.mem_cons.1 hx with rfl | hx
          · cases hy
          · exact i2 x hx y hy, .cons _ _ _ _ (.snil 0 0) i3⟩
      · exact ⟨n, b, some (len, cap) :: sl, by simp [slices, i1], by
          intro x hx y hy
          rcases List.mem_cons.1 hx with rfl | hx
          · cases hy; exact hle
          · exact i2 x hx y hy, .cons _ _ _ _ (.sdead 0 0 none len cap cap a hφ hle (Nat.le_refl _) fun _ => rfl) i3⟩

/-- a memory with one dead block -/
def m1 : LMem := ⟨TM.lf (some .dead), 1⟩
def phi1 : Phi := fun id => match id with
  | 0 => some none
  | _ => none

theorem m1_get (id : Nat) (b : LB) (h : m1.get id = some b) : b = .dead := by
  have _s := SymT.tab
  have hlt := LMem.get_lt h
  rw [LMem.get_tr hlt] at h
  have : TM.get m1.tr id = some .dead := TM.get_lf _ _
  rw [this] at h
  cases h; rfl

theorem m1_wf : WF m1 := ⟨by show 1 ≤ 16384; omega, fun id b h => by rw [m1_get id b h]; exact Nat.zero_le _⟩

theorem phi1_live (id : Nat) (l : Loc) (h : phi1 id = some (some l)) : False := by
  have _s := SymT.tab
  cases id with
  | zero => cases h
  | succ n => cases h

/-- a call that answers true and leaves alone what was there -/
theorem true_call {P : Program} {X : ExtT} (hP : POK P X) {prim : FuncId → Option (List Value → LMem → Option (Value × LMem))} (hp : PrimOK P prim) {fuel n : Nat} {f : FuncId} {args args' : List Value}
    (h : isTrue (callFF P X prim fuel n f args m1) = true) (ha : VRL phi1 args args') (w : World) :
    Calls P f ⟨args'⟩ w fun e w' => e = .returned (.bool true) ∧ Below w.heap.size w w' := by
  obtain ⟨m, hm⟩ := isTrue_some h
  rw [callFF_eq] at hm
  have hd : ∀ id, phi1 id = some none → m1.get id = some .dead := by
    intro id h
    cases id with
    | zero => rfl
    | succ n => cases h
  have hb : Bd phi1 m1.next := by
    intro id h
    cases id with
    | zero => exact Nat.zero_lt_one
    | succ n => exact absurd rfl h
  have hs := (call_sound hP hp fuel n f args m1 _ _ hm m1_wf).2 phi1 w args'
    ⟨fun id l h => (phi1_live id l h).elim, hd, fun id jd l l' h => (phi1_live id l h).elim⟩ hb ha
  refine hs.mono fun e w' ⟨v', φ', he, hsim, hv, _, _⟩ => ?_
  cases hv
  exact ⟨he, hsim.fr.os, hsim.fr.tape, hsim.fr.output, hsim.fr.size, fun k hk => hsim.fr.same k hk fun id l h => (phi1_live id l h).elim⟩
end Go.Eng
/- Calls that are run apart from their callers: segments, with what they leave alone. -/
namespace Go.Eng
variable [SymV] [SymT]

def iv (n : Nat) : Value := .int .i64 (.ofNat n)
def nv (n : Nat) : Value := .int .i64 (.negSucc n)

/-- what 'CallSound' says of one call -/
def SC (P : Program) (g : FuncId) (args : List Value) (m : LMem) (v : Value) (m' : LMem) : Prop :=
  (m.next ≤ m'.next ∧ WF m') ∧ ∀ φ w args', MR φ m.get w → Bd φ m.next → VRL φ args args' → Calls P g ⟨args'⟩ w (CallPost m m' v φ w)

def lk : List (Nat × LB) → Nat → Option LB
  | [], _ => none
  | (i, b) :: r, j => if i = j then some b else lk r j

noncomputable def fill (t : TM LB) : List (Nat × LB) → TM LB
  | [] => t
  | (i, b) :: r => TM.set (fill t r) i b

theorem fill_get {t : TM LB} {j : Nat} (hj : j < 65536) : ∀ {l : List (Nat × LB)}, (∀ p ∈ l, p.1 < 65536) → TM.get (fill t l) j = (match lk l j with | some b => some b | none => TM.get t j)
  | [], _ => by have _s := SymT.tab; have _s := SymT.tab; exact rfl
  | (i, b) :: r, h => by
    have hi : i < 65536 := h (i, b) (by simp)
    have ih := fill_get (t := t) hj (l := r) fun p hp => h p (by simp [hp])
    simp only [fill, lk]
    rw [TM.get_set]
    by_cases he : i = j
    · subst he; simp
    · rw [if_neg (by omega), if_neg he, ih]

noncomputable def mem (n : Nat) (l : List (Nat × LB)) : LMem := ⟨fill (TM.lf (some .dead)) l, n⟩

theorem lk_mem : ∀ {l : List (Nat × LB)} {j : Nat} {b : LB}, lk l j = some b → (j, b) ∈ l
  | [], _, _, h => by have _s := SymT.tab; simp [lk] at h
  | (i, b') :: r, j, b, h => by
    simp only [lk] at h
    by_cases he : i = j
    · rw [if_pos he] at h; cases h; subst he; simp
    · rw [if_neg he] at h; have := lk_mem h; simp [this]

theorem lk_none : ∀ {l : List (Nat × LB)} {j : Nat}, lk l j = none → ∀ p ∈ l, p.1 ≠ j
  | [], _, _, p, hp => by have _s := SymT.tab; simp at hp
  | (i, b') :: r, j, h, p, hp => by
    simp only [lk] at h
    by_cases he : i = j
    · rw [if_pos he] at h; cases h
    · rw [if_neg he] at h
      rcases List.mem_cons.1 hp with rfl | hp
      · exact he
      · exact lk_none h p hp

theorem mem_get {n : Nat} {l : List (Nat × LB)} {j : Nat} (hl : ∀ p ∈ l, p.1 < 65536) (hn : n ≤ 16384) (hj : j < n) : (mem n l).get j = some ((lk l j).getD .dead) := by
  have h1 : (mem n l).get j = TM.get (fill (TM.lf (some .dead)) l) j := LMem.get_tr (m := mem n l) hj
  rw [h1, fill_get (by omega) hl]
  cases lk l j with
  | none => exact TM.get_lf _ _
  | some b => rfl

/-- all blocks that a value names are among S (as far as the fuel goes) -/
def inS (S : Nat → Bool) : Nat → Value → Bool
  | 0, _ => false
  | n + 1, v => match v with
    | .pointer (some a) => S a.block
    | .slice (some a) _ _ => S a.block
    | .map (some r) => S r
    | .chan (some _) => false
    | .func _ xs ys => xs.toList.all (inS S n) && ys.toList.all (inS S n)
    | .iface _ x => inS S n x
    | .agg xs => xs.toList.all (inS S n)
    | .tuple xs => xs.toList.all (inS S n)
    | _ => true

def inSB (S : Nat → Bool) : LB → Bool
  | .cells c => c.all (inS S 7)
  | .ro c => c.all (inS S 7)
  | .map es _ => es.all fun e => inS S 7 e.val
  | .dead => true

mutual
theorem VR.inS {φ φ' : Phi} {S : Nat → Bool} (hS : ∀ id, S id = true → φ' id = φ id) : ∀ {x y : Value} (k : Nat), VR φ x y → inS S k x = true → VR φ' x y
  | _, _, 0, _, h => by have _s := SymT.tab; have _s := SymT.tab; simp [Eng.inS] at h
  | _, _, _ + 1, .bool b, _ => .bool b
  | _, _, _ + 1, .int k n, _ => .int k n
  | _, _, _ + 1, .string s, _ => .string s
  | _, _, _ + 1, .float k n, _ => .float k n
  | _, _, _ + 1, .sym k n m v hv, _ => .sym k n m v hv
  | _, _, _ + 1, .cnil, _ => .cnil
  | _, _, _ + 1, .pnil, _ => .pnil
  | _, _, _ + 1, .ptr b off l hl, h => .ptr b off l (by rw [hS b (by simpa [Eng.inS] using h)]; exact hl)
  | _, _, _ + 1, .pdead b off sp a hl, h => .pdead b off sp a (by rw [hS b (by simpa [Eng.inS] using h)]; exact hl)
  | _, _, _ + 1, .snil n c, _ => .snil n c
  | _, _, _ + 1, .slice b off sp len cap cap' l hl h1 h2 h3 h4, h => .slice b off sp len cap cap' l (by rw [hS b (by simpa [Eng.inS] using h)]; exact hl) h1 h2 h3 h4
  | _, _, _ + 1, .sdead b off sp len cap cap' a hl h1 h2 h3, h => .sdead b off sp len cap cap' a (by rw [hS b (by simpa [Eng.inS] using h)]; exact hl) h1 h2 h3
  | _, _, _ + 1, .szero b off e o l hl, h => .szero b off e o l (by rw [hS b (by simpa [Eng.inS] using h)]; exact hl)
  | _, _, _ + 1, .mnil, _ => .mnil
  | _, _, _ + 1, .map r l hl, h => .map r l (by rw [hS r (by simpa [Eng.inS] using h)]; exact hl)
  | _, _, _ + 1, .mdead r r' hl, h => .mdead r r' (by rw [hS r (by simpa [Eng.inS] using h)]; exact hl)
  | _, _, k + 1, .func fn xs us ys vs h1 h2, h => by
    simp only [Eng.inS, Bool.and_eq_true] at h
    exact .func fn xs us ys vs (VRL.inS hS k h1 h.1) (VRL.inS hS k h2 h.2)
  | _, _, _ + 1, .nilFunc, _ => .nilFunc
  | _, _, k + 1, .iface t x y h1, h => .iface t x y (VR.inS hS k h1 (by simpa [Eng.inS] using h))
  | _, _, _ + 1, .nilIface, _ => .nilIface
  | _, _, k + 1, .agg xs ys h1, h => .agg xs ys (VRL.inS hS k h1 h)
  | _, _, k + 1, .tuple xs ys h1, h => .tuple xs ys (VRL.inS hS k h1 h)
theorem VRL.inS {φ φ' : Phi} {S : Nat → Bool} (hS : ∀ id, S id = true → φ' id = φ id) : ∀ {x y : List Value} (k : Nat), VRL φ x y → x.all (Eng.inS S k) = true → VRL φ' x y
  | _, _, _, .nil, _ => by have _s := SymT.tab; exact .nil
  | _, _, k, .cons x y xs ys h1 h2, h => by
    simp only [List.all_cons, Bool.and_eq_true] at h
    exact .cons x y xs ys (VR.inS hS k h1 h.1) (VRL.inS hS k h2 h.2)
end

theorem BR.inS {φ φ' : Phi} {S : Nat → Bool} (hS : ∀ id, S id = true → φ' id = φ id) {b : LB} {l : Loc} {w : World} (hb : BR φ b l w) (h : inSB S b = true) : BR φ' b l w := by
  cases b with
  | cells c =>
    obtain ⟨c', e, h1, h2, h3, h4⟩ := hb
    refine ⟨c', e, h1, h2, h3, fun i v hv => ?_⟩
    obtain ⟨v', h5, h6⟩ := h4 i v hv
    exact ⟨v', h5, h6.inS hS 7 (List.all_eq_true.1 h v (List.mem_of_getElem? hv))⟩
  | ro c =>
    obtain ⟨c', e, fz, h1, h2, h3, h4⟩ := hb
    refine ⟨c', e, fz, h1, h2, h3, fun i v hv => ?_⟩
    obtain ⟨v', h5, h6⟩ := h4 i v hv
    exact ⟨v', h5, h6.inS hS 7 (List.all_eq_true.1 h v (List.mem_of_getElem? hv))⟩
  | map es ck =>
    obtain ⟨es', h1, h2⟩ := hb
    refine ⟨es', h1, h2.len, fun i e he => ?_⟩
    obtain ⟨e', h3, h4, h5, h6, h7⟩ := h2.at_ i e he
    exact ⟨e', h3, h4, h5, h6, h7.inS hS 7 (List.all_eq_true.1 h e (List.mem_of_getElem? he))⟩
  | dead => exact hb.elim

def eeq (a b : MapEntry) : Bool := veq 7 a.key b.key && veq 7 a.val b.val && Nat.beq a.born b.born

def eeqL : List MapEntry → List MapEntry → Bool
  | [], [] => true
  | x :: xs, y :: ys => eeq x y && eeqL xs ys
  | _, _ => false

def lbeq : LB → LB → Bool
  | .cells a, .cells b => veqL (veq 7) a b
  | .ro a, .ro b => veqL (veq 7) a b
  | .map a c, .map b d => eeqL a b && Nat.beq c d
  | .dead, .dead => true
  | _, _ => false

theorem eeq_eq {a b : MapEntry} (h : eeq a b = true) : a = b := by
  unfold eeq at h
  simp only [Bool.and_eq_true] at h
  have h1 := veq_eq 7 _ _ h.1.1
  have h2 := veq_eq 7 _ _ h.1.2
  have h3 := Nat.eq_of_beq_eq_true h.2
  cases a; cases b; simp only at h1 h2 h3; subst h1; subst h2; subst h3; rfl

theorem eeqL_eq : ∀ {a b : List MapEntry}, eeqL a b = true → a = b
  | [], [], _ => rfl
  | [], _ :: _, h => by simp [eeqL] at h
  | _ :: _, [], h => by simp [eeqL] at h
  | x :: xs, y :: ys, h => by
    simp only [eeqL, Bool.and_eq_true] at h
    rw [eeq_eq h.1, eeqL_eq h.2]

theorem lbeq_eq {a b : LB} (h : lbeq a b = true) : a = b := by
  cases a <;> cases b <;> simp only [lbeq] at h <;> first | rfl | cases h | skip
  · rw [veqL_eq (veq_eq 7) h]
  · rw [veqL_eq (veq_eq 7) h]
  · simp only [Bool.and_eq_true] at h
    rw [eeqL_eq h.1, Nat.eq_of_beq_eq_true h.2]

structure Seg where
  g : FuncId
  args : List Value
  n : Nat
  pre : List (Nat × LB)
  v : Value
  n' : Nat
  post : List (Nat × LB)

def hasId : List (Nat × LB) → Nat → Bool
  | [], _ => false
  | (i, _) :: r, j => Nat.beq i j || hasId r j

theorem hasId_lk : ∀ {l : List (Nat × LB)} {j : Nat}, hasId l j = true ↔ ∃ b, lk l j = some b
  | [], j => by have _s := SymT.tab; simp [hasId, lk]
  | (i, b) :: r, j => by
    simp only [hasId, lk, Bool.or_eq_true]
    by_cases he : i = j
    · subst he; simp [Nat.beq_refl]
    · rw [if_neg he, ← hasId_lk]
      have : Nat.beq i j = false := by
        cases hb : Nat.beq i j
        · rfl
        · exact absurd (Nat.eq_of_beq_eq_true hb) he
      simp [this]

/-- the blocks that a segment may name behind it -/
def Seg.own (s : Seg) (j : Nat) : Bool := Nat.ble s.n j || hasId s.pre j

def segOK (s : Seg) : Bool :=
  Nat.ble s.n s.n' && Nat.ble s.n' 16384 && s.pre.all (fun p => Nat.blt p.1 s.n && Nat.ble (ubB p.2) s.n) &&
  s.post.all (fun p => Nat.blt p.1 s.n' && Nat.ble (ubB p.2) s.n' && s.own p.1 && inSB s.own p.2) && inS s.own 7 s.v

noncomputable def holdsAll (m : LMem) (l : List (Nat × LB)) : Bool :=
  List.rec (motive := fun _ => Bool) true (fun p _ ih => Option.rec (motive := fun _ => Bool) false (fun b => lbeq b p.2 && ih) (m.get p.1)) l

theorem holdsAll_at {m : LMem} : ∀ {l : List (Nat × LB)}, holdsAll m l = true → ∀ p ∈ l, m.get p.1 = some p.2
  | [], _, p, hp => by simp at hp
  | q :: r, h, p, hp => by
    have h' : (Option.rec (motive := fun _ => Bool) false (fun b => lbeq b q.2 && holdsAll m r) (m.get q.1)) = true := h
    cases hg : m.get q.1 with
    | none => rw [hg] at h'; cases h'
    | some b =>
      rw [hg] at h'
      have h2 : (lbeq b q.2 && holdsAll m r) = true := h'
      rw [Bool.and_eq_true] at h2
      rcases List.mem_cons.1 hp with rfl | hp
      · rw [hg, lbeq_eq h2.1]
      · exact holdsAll_at h2.2 p hp

noncomputable def segRun (r : Option (Value × LMem)) (s : Seg) : Bool :=
  match r with
  | some (v, m) => Nat.beq m.next s.n' && veq 7 v s.v && holdsAll m s.post
  | none => false

theorem mem_wf {n : Nat} {l : List (Nat × LB)} (hn : n ≤ 16384) (hl : ∀ p ∈ l, p.1 < n ∧ ubB p.2 ≤ n) : WF (mem n l) := by
  refine ⟨hn, fun id b h => ?_⟩
  have hid : id < n := LMem.get_lt h
  rw [mem_get (fun p hp => by have := (hl p hp).1; omega) hn hid] at h
  cases h
  show ubB ((lk l id).getD .dead) ≤ n
  cases hk : lk l id with
  | none => exact Nat.zero_le _
  | some b => exact (hl _ (lk_mem hk)).2

structure SegFit (s : Seg) : Prop where
  le : s.n ≤ s.n'
  room : s.n' ≤ 16384
  pre : ∀ p ∈ s.pre, p.1 < s.n ∧ ubB p.2 ≤ s.n
  post : ∀ p ∈ s.post, p.1 < s.n' ∧ ubB p.2 ≤ s.n'
  own : ∀ p ∈ s.post, s.own p.1 = true ∧ inSB s.own p.2 = true
  val : inS s.own 7 s.v = true

theorem segFit {s : Seg} (h : segOK s = true) : SegFit s := by
  have _s := SymT.tab
  unfold segOK at h
  simp only [Bool.and_eq_true, List.all_eq_true] at h
  obtain ⟨⟨⟨⟨h1, h2⟩, h3⟩, h4⟩, h5⟩ := h
  exact ⟨Nat.le_of_ble_eq_true h1, Nat.le_of_ble_eq_true h2, fun p hp => ⟨blt_lt (h3 p hp).1, Nat.le_of_ble_eq_true (h3 p hp).2⟩,
    fun p hp => ⟨blt_lt (h4 p hp).1.1.1, Nat.le_of_ble_eq_true (h4 p hp).1.1.2⟩, fun p hp => ⟨(h4 p hp).1.2, (h4 p hp).2⟩, h5⟩

/-- blocks given up: dead for the logical memory -/
theorem killL {φ : Phi} {m : LMem} {w : World} {n : Nat} {l : List (Nat × LB)} (hn : n ≤ 16384) (hm : MR φ m.get w) (hb : Bd φ n) (hl : ∀ p ∈ l, p.1 < n ∧ m.get p.1 = some p.2) :
    ∃ φ', Ext φ φ' ∧ (∀ id, φ id = none → φ' id = none) ∧ (∀ id x, φ' id = some (some x) → φ id = some (some x)) ∧ MR φ' (mem n l).get w ∧ Bd φ' n := by
  have hl' : ∀ p ∈ l, p.1 < 65536 := fun p hp => by have := (hl p hp).1; omega
  refine ⟨fun id => (φ id).map fun x => if hasId l id then x else none, ?_, ?_, ?_, ⟨?_, ?_, ?_⟩, ?_⟩
  · intro id hid
    cases h : φ id with
    | none => exact absurd h hid
    | some x => cases hh : hasId l id <;> simp [h, hh]
  · intro id h; simp [h]
  · intro id x h
    cases hq : φ id with
    | none => simp [hq] at h
    | some y => cases hh : hasId l id <;> simp [hq, hh] at h; rw [h]
  · intro id x h
    cases hq : φ id with
    | none => simp [hq] at h
    | some y =>
      cases hh : hasId l id with
      | false => simp [hq, hh] at h
      | true =>
        simp [hq, hh] at h
        obtain ⟨b, h1, h2⟩ := hm.live id x (by rw [hq, h])
        obtain ⟨b', hb'⟩ := hasId_lk.1 hh
        have hm' := (hl _ (lk_mem hb')).2
        simp only at hm'
        rw [h1] at hm'
        cases hm'
        refine ⟨b, by rw [mem_get hl' hn (hb id (by rw [hq]; simp)), hb']; rfl, h2.mono (fun jd hj => ?_) rfl⟩
        cases hqj : φ jd with
        | none => exact absurd hqj hj
        | some z => cases hasId l jd <;> simp
  · intro id h
    have hid : id < n := hb id (fun h0 => by simp [h0] at h)
    rw [mem_get hl' hn hid]
    cases hk : lk l id with
    | none => rfl
    | some b =>
      have hh : hasId l id = true := hasId_lk.2 ⟨b, hk⟩
      cases hq : φ id with
      | none => simp [hq] at h
      | some y =>
        simp [hq, hh] at h
        have := hm.dead id (by rw [hq, h])
        have hm' := (hl _ (lk_mem hk)).2
        simp only at hm'
        rw [this] at hm'
        cases hm'; rfl
  · intro id jd x y h1 h2 he
    have a1 : φ id = some (some x) := by
      cases hq : φ id with
      | none => simp [hq] at h1
      | some z => cases hh : hasId l id <;> simp [hq, hh] at h1; rw [h1]
    have a2 : φ jd = some (some y) := by
      cases hq : φ jd with
      | none => simp [hq] at h2
      | some z => cases hh : hasId l jd <;> simp [hq, hh] at h2; rw [h2]
    exact hm.inj id jd x y a1 a2 he
  · intro id h; exact hb id fun h0 => h (by simp [h0])

theorem seg_of_run {P : Program} {X : ExtT} (hP : POK P X) {prim : FuncId → Option (List Value → LMem → Option (Value × LMem))} (hp : PrimOK P prim) {fuel k : Nat} {s : Seg} (hs : SegFit s)
    (h : segRun (callFF P X prim fuel k s.g s.args (mem s.n s.pre)) s = true) : SC P s.g s.args (mem s.n s.pre) s.v (mem s.n' s.post) := by
  cases hr : callFF P X prim fuel k s.g s.args (mem s.n s.pre) with
  | none => rw [hr] at h; cases h
  | some r =>
    obtain ⟨v, m⟩ := r
    rw [hr] at h
    have h' : (Nat.beq m.next s.n' && veq 7 v s.v && holdsAll m s.post) = true := h
    simp only [Bool.and_eq_true] at h'
    obtain ⟨⟨h1, h2⟩, h3⟩ := h'
    have h1 := Nat.eq_of_beq_eq_true h1
    have h2 := veq_eq 7 _ _ h2
    subst h2
    have h3 := holdsAll_at h3
    rw [callFF_eq] at hr
    have hw : WF (mem s.n s.pre) := mem_wf (Nat.le_trans hs.le hs.room) hs.pre
    have hc := call_sound hP hp fuel k s.g s.args (mem s.n s.pre) _ _ hr hw
    refine ⟨⟨hs.le, mem_wf hs.room hs.post⟩, fun φ w args' hm hb ha => ?_⟩
    refine (hc.2 φ w args' hm hb ha).mono fun e w' ⟨v', φ', he, hsim, hv, hm', hb'⟩ => ?_
    rw [h1] at hb'
    obtain ⟨φ2, k1, k2, k3, k4, k5⟩ := killL (n := s.n') (l := s.post) hs.room hm' hb' fun p hp => ⟨(hs.post p hp).1, h3 p hp⟩
    refine ⟨v', φ2, he, ⟨hsim.ext.trans k1, fun id l hl => hsim.new id l (k3 id l hl), fun id hid h0 => k2 id (hsim.un id hid h0), hsim.fr⟩, hv.mono k1, k4, k5⟩

/-- what the segment's own blocks and the new ones are behind it, if nothing else is said -/
def deads : Nat → Nat → List (Nat × LB)
  | 0, _ => []
  | k + 1, i => (i, .dead) :: deads k (Nat.succ i)

theorem deads_lk : ∀ (k i j : Nat), lk (deads k i) j = if i ≤ j ∧ j < i + k then some .dead else none
  | 0, i, j => by have _s := SymT.tab; rw [if_neg (by omega)]; rfl
  | k + 1, i, j => by
    simp only [deads, lk]
    rw [deads_lk k (i + 1) j]
    by_cases he : i = j
    · rw [if_pos he, if_pos (by omega)]
    · rw [if_neg he]
      by_cases h : i + 1 ≤ j ∧ j < i + 1 + k
      · rw [if_pos h, if_pos (by omega)]
      · rw [if_neg h, if_neg (by omega)]

theorem deads_keys : ∀ (k i : Nat), ∀ p ∈ deads k i, p.1 < i + k
  | 0, i, p, hp => by have _s := SymT.tab; simp [deads] at hp
  | k + 1, i, p, hp => by
    simp only [deads, List.mem_cons] at hp
    rcases hp with rfl | hp
    · simp
    · have := deads_keys k (i + 1) p hp; omega

def gone (l : List (Nat × LB)) : List (Nat × LB) := l.map fun p => (p.1, .dead)

theorem gone_lk : ∀ (l : List (Nat × LB)) (j : Nat), lk (gone l) j = (lk l j).map fun _ => .dead
  | [], j => by have _s := SymT.tab; exact rfl
  | (i, b) :: r, j => by
    simp only [gone, List.map_cons, lk]
    by_cases he : i = j
    · rw [if_pos he, if_pos he]; rfl
    · rw [if_neg he, if_neg he]; exact gone_lk r j

/-- the segment's memory behind it, laid over the caller's -/
noncomputable def Seg.over (s : Seg) (m : LMem) : LMem :=
  LMem.rec (motive := fun _ => LMem) (fun tr _ => ⟨fill (fill (fill tr (gone s.pre)) (deads (s.n' - s.n) s.n)) s.post, s.n'⟩) m

theorem over_get {s : Seg} (hs : SegFit s) {m : LMem} (hn : m.next = s.n) (j : Nat) (hj : j < s.n') :
    (s.over m).get j = if s.own j = true then some ((lk s.post j).getD .dead) else m.get j := by
  have hr := hs.room
  have hle := hs.le
  have hkey1 : ∀ p ∈ s.post, p.1 < 65536 := fun p hp => by have := (hs.post p hp).1; omega
  have hkey2 : ∀ p ∈ deads (s.n' - s.n) s.n, p.1 < 65536 := fun p hp => by have := deads_keys _ _ p hp; omega
  have hkey3 : ∀ p ∈ gone s.pre, p.1 < 65536 := fun p hp => by
    obtain ⟨q, hq, rfl⟩ := List.mem_map.1 hp
    have := (hs.pre q hq).1; simp only; omega
  have h1 : (s.over m).get j = TM.get (fill (fill (fill m.tr (gone s.pre)) (deads (s.n' - s.n) s.n)) s.post) j := by
    obtain ⟨tr, next⟩ := m
    exact LMem.get_tr (m := Seg.over s ⟨tr, next⟩) hj
  rw [h1, fill_get (by omega) hkey1, fill_get (by omega) hkey2, fill_get (by omega) hkey3, deads_lk, gone_lk]
  cases hk : lk s.post j with
  | some b =>
    rw [if_pos (hs.own _ (lk_mem hk)).1]; rfl
  | none =>
    simp only
    by_cases ho : s.own j = true
    · rw [if_pos ho]
      unfold Seg.own at ho
      rw [Bool.or_eq_true] at ho
      rcases Nat.lt_or_ge j s.n with hlt | hge
      · have hh : hasId s.pre j = true := by
          rcases ho with ho | ho
          · have := Nat.le_of_ble_eq_true ho; omega
          · exact ho
        obtain ⟨b, hb⟩ := hasId_lk.1 hh
        rw [if_neg (by omega), hb]; rfl
      · rw [if_pos (by omega)]; rfl
    · rw [if_neg ho]
      unfold Seg.own at ho
      rw [Bool.or_eq_true] at ho
      have hlt : j < s.n := by
        rcases Nat.lt_or_ge j s.n with h | h
        · exact h
        · exact absurd (Or.inl (Nat.ble_eq_true_of_le h)) ho
      have hp : lk s.pre j = none := by
        cases hq : lk s.pre j with
        | none => rfl
        | some b => exact absurd (Or.inr (hasId_lk.2 ⟨b, hq⟩)) ho
      rw [if_neg (by omega), hp]
      simp only [Option.map_none]
      rw [LMem.get_tr (by omega)]

noncomputable def segApply (s : Seg) (args : List Value) (m : LMem) : Option (Value × LMem) :=
  bif Nat.beq m.next s.n then (bif veqL (veq 7) args s.args then (bif holdsAll m s.pre then some (s.v, s.over m) else none) else none) else none

theorem segApply_ok {P : Program} {s : Seg} (hs : SegFit s) (hsc : SC P s.g s.args (mem s.n s.pre) s.v (mem s.n' s.post)) {args : List Value} {m m' : LMem} {v : Value}
    (h : segApply s args m = some (v, m')) (hw : WF m) : SC P s.g args m v m' := by
  unfold segApply at h
  cases h1 : Nat.beq m.next s.n with
  | false => rw [h1] at h; cases h
  | true =>
  cases h2 : veqL (veq 7) args s.args with
  | false => rw [h1, h2] at h; cases h
  | true =>
  cases h3 : holdsAll m s.pre with
  | false => rw [h1, h2, h3] at h; cases h
  | true =>
  rw [h1, h2, h3] at h
  simp only [cond_true, Option.some.injEq, Prod.mk.injEq] at h
  obtain ⟨rfl, rfl⟩ := h
  have h1 := Nat.eq_of_beq_eq_true h1
  have h2 := veqL_eq (veq_eq 7) h2
  subst h2
  have h3 := holdsAll_at h3
  have hle := hs.le
  have hroom := hs.room
  have hnext : (s.over m).next = s.n' := by cases m; rfl
  have hpre : ∀ p ∈ s.pre, p.1 < 65536 := fun p hp => by have := (hs.pre p hp).1; omega
  have hpost : ∀ p ∈ s.post, p.1 < 65536 := fun p hp => by have := (hs.post p hp).1; omega
  refine ⟨⟨by rw [hnext, h1]; exact hle, ⟨by rw [hnext]; exact hroom, fun id b hb => ?_⟩⟩, fun φ w args' hm hb ha => ?_⟩
  · have hid := LMem.get_lt hb
    rw [hnext] at hid ⊢
    rw [over_get hs h1 id hid] at hb
    by_cases ho : s.own id = true
    · rw [if_pos ho] at hb
      cases hb
      cases hk : lk s.post id with
      | none => exact Nat.zero_le _
      | some b => exact (hs.post _ (lk_mem hk)).2
    · rw [if_neg ho] at hb
      have := hw.closed id b hb
      omega
  · rw [h1] at hb
    obtain ⟨φ0, k1, k2, k3, k4, k5⟩ := killL (n := s.n) (l := s.pre) (Nat.le_trans hle hroom) hm hb fun p hp => ⟨(hs.pre p hp).1, h3 p hp⟩
    -- what is kept of the blocks that the segment has
    have k6 : ∀ id, s.own id = true → φ0 id = φ id := by
      intro id ho
      cases hq : φ id with
      | none => exact k2 id hq
      | some x =>
        have hid : id < s.n := hb id (by rw [hq]; simp)
        rcases k1 id (by rw [hq]; simp) with h | h
        · rw [h, hq]
        · cases x with
          | none => exact h
          | some l =>
            exfalso
            unfold Seg.own at ho
            rw [Bool.or_eq_true] at ho
            rcases ho with ho | ho
            · have := Nat.le_of_ble_eq_true ho; omega
            · obtain ⟨b, hb'⟩ := hasId_lk.1 ho
              have hd := k4.dead id h
              rw [mem_get hpre (Nat.le_trans hle hroom) hid, hb'] at hd
              cases hd
              have hmm := h3 _ (lk_mem hb')
              obtain ⟨b, hl1, hl2⟩ := hm.live id l hq
              simp only at hmm
              rw [hl1] at hmm
              cases hmm
              exact hl2.elim
    refine (hsc.2 φ0 w args' k4 k5 (ha.mono k1)).mono fun e w' ⟨v', φ1, he, hsim, hv, hm1, hb1⟩ => ?_
    have hb1 : Bd φ1 s.n' := hb1
    have hsim : Sim s.n φ0 φ1 w w' := hsim
    have hS : ∀ id, s.own id = true → (fun id => if s.own id = true then φ1 id else φ id) id = φ1 id := fun id ho => by simp [ho]
    have hext : Ext φ (fun id => if s.own id = true then φ1 id else φ id) := by
      intro id hid
      by_cases ho : s.own id = true
      · simp only [ho, if_true]
        rcases hsim.ext id (by rw [k6 id ho]; exact hid) with h | h
        · exact .inl (h.trans (k6 id ho))
        · exact .inr h
      · simp [ho]
    have hnew : ∀ id l, φ1 id = some (some l) → (∃ jd l0, s.own jd = true ∧ φ jd = some (some l0) ∧ l0.b = l.b) ∨ w.heap.size ≤ l.b := by
      intro id l hl
      rcases hsim.new id l hl with ⟨jd, l0, g1, g2⟩ | g1
      · have hjd := k3 jd l0 g1
        refine .inl ⟨jd, l0, ?_, hjd, g2⟩
        have hjlt : jd < s.n := hb jd (by rw [hjd]; simp)
        obtain ⟨b, hl1, hl2⟩ := k4.live jd l0 g1
        rw [mem_get hpre (Nat.le_trans hle hroom) hjlt] at hl1
        cases hk : lk s.pre jd with
        | none => rw [hk] at hl1; cases hl1; exact hl2.elim
        | some b => unfold Seg.own; rw [Bool.or_eq_true]; exact .inr (hasId_lk.2 ⟨b, hk⟩)
      · exact .inr g1
    have hlt : ∀ id l, φ id = some (some l) → l.b < w.heap.size := fun id l hl => by
      obtain ⟨b, _, h2⟩ := hm.live id l hl; exact h2.lt
    refine ⟨v', fun id => if s.own id = true then φ1 id else φ id, he, ⟨hext, ?_, ?_, ⟨hsim.fr.os, hsim.fr.tape, hsim.fr.output, hsim.fr.size, ?_⟩⟩, hv.inS hS 7 hs.val, ⟨?_, ?_, ?_⟩, ?_⟩
    · intro id l hl
      by_cases ho : s.own id = true
      · simp only [ho, if_true] at hl
        rcases hnew id l hl with ⟨jd, l0, _, g1, g2⟩ | g1
        · exact .inl ⟨jd, l0, g1, g2⟩
        · exact .inr g1
      · simp [ho] at hl
        exact .inl ⟨id, l, hl, rfl⟩
    · intro id hid h0
      by_cases ho : s.own id = true
      · simp only [ho, if_true]
        exact hsim.un id (by omega) (by rw [k6 id ho]; exact h0)
      · simp [ho, h0]
    · intro b hb' hne
      exact hsim.fr.same b hb' fun id l hl => hne id l (k3 id l hl)
    · intro id l hl
      by_cases ho : s.own id = true
      · simp only [ho, if_true] at hl
        have hid : id < s.n' := hb1 id (by rw [hl]; simp)
        obtain ⟨b, g1, g2⟩ := hm1.live id l hl
        rw [mem_get hpost hroom hid] at g1
        rw [over_get hs h1 id hid, if_pos ho]
        cases hk : lk s.post id with
        | none => rw [hk] at g1; cases g1; exact g2.elim
        | some b' =>
          rw [hk] at g1
          cases g1
          exact ⟨b', rfl, g2.inS hS (hs.own _ (lk_mem hk)).2⟩
      · simp [ho] at hl
        have hid : id < s.n := hb id (by rw [hl]; simp)
        obtain ⟨b, g1, g2⟩ := hm.live id l hl
        rw [over_get hs h1 id (by omega), if_neg ho]
        refine ⟨b, g1, g2.mono hext (hsim.fr.same l.b g2.lt fun jd l0 hl0 hbe => ?_)⟩
        have hjd := k3 jd l0 hl0
        have := hm.inj jd id l0 l hjd hl hbe
        subst this
        have hjlt : jd < s.n := hb jd (by rw [hjd]; simp)
        obtain ⟨b, hl1, hl2⟩ := k4.live jd l0 hl0
        rw [mem_get hpre (Nat.le_trans hle hroom) hjlt] at hl1
        cases hk : lk s.pre jd with
        | none => rw [hk] at hl1; cases hl1; exact hl2.elim
        | some b => exact ho (by unfold Seg.own; rw [Bool.or_eq_true]; exact .inr (hasId_lk.2 ⟨b, hk⟩))
    · intro id hd
      by_cases ho : s.own id = true
      · simp only [ho, if_true] at hd
        have hid : id < s.n' := hb1 id (by rw [hd]; simp)
        have := hm1.dead id hd
        rw [mem_get hpost hroom hid] at this
        rw [over_get hs h1 id hid, if_pos ho]
        exact this
      · simp [ho] at hd
        have hid : id < s.n := hb id (by rw [hd]; simp)
        rw [over_get hs h1 id (by omega), if_neg ho]
        exact hm.dead id hd
    · have cross : ∀ id jd l l', s.own id = true → ¬ s.own jd = true → φ1 id = some (some l) → φ jd = some (some l') → l.b = l'.b → False := by
        intro id jd l l' ho hno hl hl' hbe
        rcases hnew id l hl with ⟨kd, l0, g0, g1, g2⟩ | g1
        · have := hm.inj kd jd l0 l' g1 hl' (g2.trans hbe)
          subst this
          exact hno g0
        · have := hlt jd l' hl'; omega
      intro id jd l l' hl hl' hbe
      by_cases ho : s.own id = true <;> by_cases hj : s.own jd = true
      · simp only [ho, if_true] at hl
        simp only [hj, if_true] at hl'
        exact hm1.inj id jd l l' hl hl' hbe
      · simp only [ho, if_true] at hl
        simp [hj] at hl'
        exact (cross id jd l l' ho hj hl hl' hbe).elim
      · simp [ho] at hl
        simp only [hj, if_true] at hl'
        exact (cross jd id l' l hj ho hl' hl hbe.symm).elim
      · simp [ho] at hl
        simp [hj] at hl'
        exact hm.inj id jd l l' hl hl' hbe
    · intro id h
      rw [hnext]
      by_cases ho : s.own id = true
      · simp only [ho, if_true] at h
        exact hb1 id h
      · simp [ho] at h
        have := hb id h; omega

abbrev PrimT := FuncId → Option (List Value → LMem → Option (Value × LMem))

noncomputable def trySegs : List Seg → FuncId → List Value → LMem → Option (Value × LMem)
  | [], _, _, _ => none
  | s :: r, g, args, m => bif Nat.beq s.g g && Nat.beq m.next s.n then (match segApply s args m with | some x => some x | none => trySegs r g args m) else trySegs r g args m

/-- a table of segments; for the functions that it names, and for no others -/
noncomputable def segPrim (gs : List FuncId) (l : List Seg) : PrimT := fun g => bif gs.any (Nat.beq g) then some (trySegs l g) else none

def SegGood (P : Program) (s : Seg) : Prop := SegFit s ∧ SC P s.g s.args (mem s.n s.pre) s.v (mem s.n' s.post)

theorem trySegs_ok {P : Program} : ∀ {l : List Seg}, (∀ s ∈ l, SegGood P s) → ∀ {g : FuncId} {args : List Value} {m m' : LMem} {v : Value}, trySegs l g args m = some (v, m') → WF m → SC P g args m v m'
  | [], _, _, _, _, _, _, h, _ => by simp [trySegs] at h
  | s :: r, hl, g, args, m, m', v, h, hw => by
    simp only [trySegs] at h
    have hs := hl s (by simp)
    have ih := fun h' => trySegs_ok (l := r) (fun t ht => hl t (List.mem_cons_of_mem _ ht)) (g := g) (args := args) (m := m) (m' := m') (v := v) h' hw
    cases hc : Nat.beq s.g g && Nat.beq m.next s.n with
    | false => rw [hc] at h; exact ih h
    | true =>
      rw [hc] at h
      rw [Bool.and_eq_true] at hc
      have := Nat.eq_of_beq_eq_true hc.1
      subst this
      simp only [cond_true] at h
      cases hq : segApply s args m with
      | none => rw [hq] at h; exact ih h
      | some x =>
        rw [hq] at h
        cases h
        exact segApply_ok hs.1 hs.2 hq hw

theorem segPrim_ok {P : Program} {gs : List FuncId} {l : List Seg} (hl : ∀ s ∈ l, SegGood P s) : PrimOK P (segPrim gs l) := by
  intro g p h args m v m' hp hw
  unfold segPrim at h
  cases hc : gs.any (Nat.beq g) with
  | false => rw [hc] at h; cases h
  | true =>
    rw [hc] at h
    cases h
    exact trySegs_ok hl hp hw

noncomputable def primOr (p q : PrimT) : PrimT := fun g => match p g with | some x => some x | none => q g

theorem primOr_ok {P : Program} {p q : PrimT} (hp : PrimOK P p) (hq : PrimOK P q) : PrimOK P (primOr p q) := by
  have _s := SymT.tab
  intro g x h
  unfold primOr at h
  cases hg : p g with
  | none => rw [hg] at h; exact hq g x h
  | some y => rw [hg] at h; cases h; exact hp g _ hg

theorem segGood {P : Program} {X : ExtT} (hP : POK P X) {prim : PrimT} (hp : PrimOK P prim) {fuel k : Nat} {s : Seg} (hs : segOK s = true)
    (h : segRun (callFF P X prim fuel k s.g s.args (mem s.n s.pre)) s = true) : SegGood P s := ⟨segFit hs, seg_of_run hP hp (segFit hs) h⟩

end Go.Eng
/- Arguments as numbers that are not known: the cells of arguments by their places. -/
namespace Go.Eng

def sv (n : Nat) : Value := .complex .f64 n 0

/-- the number at a place -/
def cellVal (cs : List Value) (i : Nat) : Value :=
  match cs[i]? with
  | some (.int k n) => .int k n
  | _ => .int .i64 0

theorem cellVal_int (cs : List Value) (i : Nat) : ∃ k n, cellVal cs i = .int k n := by
  unfold cellVal
  split
  · exact ⟨_, _, rfl⟩
  · exact ⟨_, _, rfl⟩

theorem cellVal_at {cs : List Value} {i : Nat} {k : IntKind} {n : Int} (h : cs[i]? = some (.int k n)) : cellVal cs i = .int k n := by
  unfold cellVal; rw [h]

theorem cellVal_skip {a b : List Value} {n : Nat} (h : a.length = n) (i : Nat) : cellVal (a ++ b) (n + i) = cellVal b i := by
  unfold cellVal
  rw [List.getElem?_append_right (by omega), show n + i - a.length = i by omega]

theorem cellVal_here {a b : List Value} {i : Nat} {k : IntKind} {n : Int} (h : a[i]? = some (.int k n)) : cellVal (a ++ b) i = .int k n := by
  have hlt : i < a.length := by
    rcases Nat.lt_or_ge i a.length with h' | h'
    · exact h'
    · rw [List.getElem?_eq_none h'] at h; cases h
  exact cellVal_at (by rw [List.getElem?_append_left hlt]; exact h)

/-- the logical cells: the integer at a place is the number of that place -/
def lmkP : List Sh → Nat → (Nat → Bool) → List (Option (Nat × Nat)) → List Value
  | [], _, _, _ => []
  | .int _ :: r, p, b, sl => sv p :: lmkP r (p + 1) b sl
  | .bool :: r, p, b, sl => .bool (b 0) :: lmkP r (p + 1) (fun i => b (i + 1)) sl
  | .slice :: r, p, b, sl => match sl with
    | [] => []
    | none :: sl => .slice none 0 0 :: lmkP r (p + 1) b sl
    | some (len, cap) :: sl => .slice (some ⟨0, 0, none⟩) len cap :: lmkP r (p + 1) b sl

theorem fits_sym [SymV] [SymT] {φ : Phi} (hφ : φ 0 = some none) {l : List Sh} {vs : List Value} (h : FitsL l vs) : ∀ (p : Nat), (∀ (i : Nat) (k : IntKind) (n : Int), vs[i]? = some (.int k n) → SymV.val (p + i) = .int k n) →
    ∃ b sl, sl.length = slices l ∧ (∀ x ∈ sl, ∀ y, x = some y → y.1 ≤ y.2) ∧ VRL φ (lmkP l p b sl) vs := by
  induction h with
  | nil => exact fun _ _ => ⟨fun _ => false, [], rfl, by simp, .nil⟩
  | cons s v l vs h1 _ ih =>
    intro p hv
    obtain ⟨b, sl, i1, i2, i3⟩ := ih (p + 1) fun i k n hi => by
      have := hv (i + 1) k n (by simpa using hi)
      rw [show p + 1 + i = p + (i + 1) by omega]; exact this
    cases s with
    | int k =>
      obtain ⟨x, rfl, hx⟩ := h1
      exact ⟨b, sl, i1, i2, .cons _ _ _ _ (.sym _ _ _ _ (hv 0 k x (by simp)).symm) i3⟩
    | bool =>
      obtain ⟨x, rfl⟩ := h1
      exact ⟨fun i => Nat.casesOn i x b, sl, i1, i2, .cons _ _ _ _ (.bool x) i3⟩
    | slice =>
      rcases h1 with rfl | ⟨a, len, cap, rfl, hle⟩
      · exact ⟨b, none :: sl, by simp [slices, i1], by
          intro x hx y hy
          rcases List.mem_cons.1 hx with rfl | hx
          · cases hy
          · exact i2 x hx y hy, .cons _ _ _ _ (.snil 0 0) i3⟩
      · exact ⟨b, some (len, cap) :: sl, by simp [slices, i1], by
          intro x hx y hy
          rcases List.mem_cons.1 hx with rfl | hx
          · cases hy; exact hle
          · exact i2 x hx y hy, .cons _ _ _ _ (.sdead 0 0 none len cap cap a hφ hle (Nat.le_refl _) fun _ => rfl) i3⟩

/-- a slice that no run looks into -/
def lsl : Option (Nat × Nat) → Value
  | none => .slice none 0 0
  | some (len, cap) => .slice (some ⟨0, 0, none⟩) len cap

theorem lsl_of [SymV] {φ : Phi} (hφ : φ 0 = some none) {v : Value} (h : Fits1 .slice v) : ∃ x, VR φ (lsl x) v := by
  rcases h with rfl | ⟨a, len, cap, rfl, hle⟩
  · exact ⟨none, .snil 0 0⟩
  · exact ⟨some (len, cap), .sdead 0 0 none len cap cap a hφ hle (Nat.le_refl _) fun _ => rfl⟩

theorem fits1_slice {P : Program} {w : World} {r : Reach} {base : Nat} {t : TypeId} {v : Value} (hu : ∃ e, P.underlying t = some (.slice e)) (h : Value.okWide P w r base t v) : Fits1 .slice v := by
  obtain ⟨e, hu⟩ := hu
  simp only [Value.okWide, hu] at h
  exact fits1_of (t := t) (by simp [shOf, hu]) h

theorem numD {val : Nat → Value} {x : Value} {k : IntKind} {n : Int} (hx : isSc x = true) (h : den val x = .int k n) : NumD val x := ⟨hx, k, n, h⟩

theorem good_self {val : Nat → Value} {i : Nat} (hi : ∃ k a, val i = .int k a) : (SRule.bin .eql (sv i) (sv i) (.bool true)).good val := by
  refine ⟨⟨rfl, hi⟩, ⟨rfl, hi⟩, rfl, fun t => ?_⟩
  show pureSem (binOp .eql t (val i) (val i)) = _
  obtain ⟨k, a, h⟩ := hi
  rw [h]
  simp [binOp, Op.intCmp, pureSem, Pure.pure]
  rfl

theorem good_geq {val : Nat → Value} {i : Nat} {n m : Int} (h : val i = .int .i64 n) : (SRule.bin .geq (sv i) (.int .i64 m) (.bool (decide (n ≥ m)))).good val := by
  refine ⟨numD rfl h, ⟨rfl, _, _, rfl⟩, rfl, fun t => ?_⟩
  show pureSem (binOp .geq t (val i) _) = _
  rw [h]; rfl

theorem good_leq {val : Nat → Value} {i : Nat} {n m : Int} (h : val i = .int .i64 n) : (SRule.bin .leq (sv i) (.int .i64 m) (.bool (decide (n ≤ m)))).good val := by
  refine ⟨numD rfl h, ⟨rfl, _, _, rfl⟩, rfl, fun t => ?_⟩
  show pureSem (binOp .leq t (val i) _) = _
  rw [h]; rfl

theorem FitsL.length {l : List Sh} {vs : List Value} (h : FitsL l vs) : vs.length = l.length := by
  induction h with
  | nil => rfl
  | cons s v l vs _ _ ih => simp [ih]

/-- comparisons of a number that is not known -/
theorem good_cmp {val : Nat → Value} {op : BinOp} {x y : Value} {k : IntKind} {a b : Int} {r : Bool} (hx : isSc x = true) (hy : isSc y = true) (dx : den val x = .int k a) (dy : den val y = .int k b)
    (h : ∀ t, pureSem (binOp op t (.int k a) (.int k b)) = some (.bool r)) : (SRule.bin op x y (.bool r)).good val :=
  ⟨numD hx dx, numD hy dy, rfl, fun t => by rw [dx, dy]; exact h t⟩

end Go.Eng
/- slices.Sorted(maps.Keys(m)) at keys of the kind int: what a function that does so gives, as a primitive of the engine. -/
namespace Go.Eng
open Go.Maps Go.Shelf Go.RowKit
variable [SymV] [SymT]

def ins1 (x : Int) : List Int → List Int
  | [] => [x]
  | y :: r => bif decide (x ≤ y) then x :: y :: r else y :: ins1 x r

def isort : List Int → List Int
  | [] => []
  | x :: r => ins1 x (isort r)

theorem ins1_perm (x : Int) : ∀ l : List Int, (ins1 x l).Perm (x :: l)
  | [] => by have _s := SymT.tab; have _s := SymT.tab; exact .refl _
  | y :: r => by
    simp only [ins1]
    cases decide (x ≤ y) with
    | true => exact .refl _
    | false => exact ((ins1_perm x r).cons y).trans (.swap x y r)

theorem isort_perm : ∀ l : List Int, (isort l).Perm l
  | [] => .refl _
  | x :: r => (ins1_perm x _).trans ((isort_perm r).cons x)

theorem ins1_sorted (x : Int) : ∀ l : List Int, l.Pairwise (fun a b => leI a b = true) → (ins1 x l).Pairwise (fun a b => leI a b = true)
  | [], _ => by simp [ins1]
  | y :: r, h => by
    simp only [ins1]
    cases hd : decide (x ≤ y) with
    | true =>
      rw [cond_true]
      refine .cons (fun a ha => ?_) h
      simp only [decide_eq_true_eq] at hd
      rcases List.mem_cons.1 ha with rfl | ha
      · simpa [leI] using hd
      · have := List.rel_of_pairwise_cons h ha
        simp only [leI, decide_eq_true_eq] at this ⊢
        omega
    | false =>
      rw [cond_false]
      simp only [decide_eq_false_iff_not] at hd
      refine .cons (fun a ha => ?_) (ins1_sorted x r h.of_cons)
      rcases List.mem_cons.1 ((ins1_perm x r).mem_iff.1 ha) with rfl | ha
      · simp only [leI, decide_eq_true_eq]; omega
      · exact List.rel_of_pairwise_cons h ha

theorem isort_sorted : ∀ l : List Int, (isort l).Pairwise (fun a b => leI a b = true)
  | [] => .nil
  | x :: r => ins1_sorted x _ (isort_sorted r)

theorem mergeSort_isort {l ks : List Int} (h : l.Perm ks) : l.mergeSort leI = isort ks := by
  have tr : ∀ a b c : Int, leI a b = true → leI b c = true → leI a c = true := fun a b c h1 h2 => by simp only [leI, decide_eq_true_eq] at *; exact Int.le_trans h1 h2
  have to : ∀ a b : Int, (leI a b || leI b a) = true := fun a b => by simp only [leI, Bool.or_eq_true, decide_eq_true_eq]; exact Int.le_total a b
  refine List.Perm.eq_of_pairwise (le := fun a b => leI a b = true) (fun a b _ _ h1 h2 => ?_) (List.pairwise_mergeSort tr to l) (isort_sorted ks) (((List.mergeSort_perm l leI).trans h).trans (isort_perm ks).symm)
  simp only [leI, decide_eq_true_eq] at h1 h2
  exact Int.le_antisymm h1 h2

/-- a map whose keys are these -/
def HasKeys (P : Program) (kt : TypeId) (w : World) (r : Nat) (ks : List Int) : Prop :=
  ∃ (nn : Nat) (D0 : DataW Unit), w.ownsMap P kt (fun _ => some (.nil, [])) r nn D0 ∧ (intKeys D0).Perm ks ∧ Maps.size D0 ≤ 1048576

def keysL : List MapEntry → Option (List Int)
  | [] => some []
  | e :: r => match e.key with
    | .int .i64 n => bif (Lit.int .i64 n).wf then (keysL r).map (n :: ·) else none
    | _ => none

def memI (x : Int) : List Int → Bool
  | [] => false
  | y :: r => decide (x = y) || memI x r
def nodupI : List Int → Bool
  | [] => true
  | x :: r => !memI x r && nodupI r
def memN (x : Nat) : List Nat → Bool
  | [] => false
  | y :: r => Nat.beq x y || memN x r
def nodupN : List Nat → Bool
  | [] => true
  | x :: r => !memN x r && nodupN r

theorem memI_iff {x : Int} : ∀ {l : List Int}, memI x l = true ↔ x ∈ l
  | [] => by have _s := SymT.tab; simp [memI]
  | y :: r => by simp [memI, memI_iff (l := r)]
theorem nodupI_iff : ∀ {l : List Int}, nodupI l = true → l.Nodup
  | [], _ => .nil
  | x :: r, h => by
    simp only [nodupI, Bool.and_eq_true, Bool.not_eq_true'] at h
    refine List.nodup_cons.2 ⟨fun hm => ?_, nodupI_iff h.2⟩
    rw [memI_iff.2 hm] at h; cases h.1
theorem memN_iff {x : Nat} : ∀ {l : List Nat}, memN x l = true ↔ x ∈ l
  | [] => by have _s := SymT.tab; simp [memN]
  | y :: r => by simp [memN, memN_iff (l := r)]
theorem nodupN_iff : ∀ {l : List Nat}, nodupN l = true → l.Nodup
  | [], _ => .nil
  | x :: r, h => by
    simp only [nodupN, Bool.and_eq_true, Bool.not_eq_true'] at h
    refine List.nodup_cons.2 ⟨fun hm => ?_, nodupN_iff h.2⟩
    rw [memN_iff.2 hm] at h; cases h.1

theorem keysL_at : ∀ {es : List MapEntry} {ks : List Int}, keysL es = some ks → es.map (·.key) = ks.map encZ ∧ ∀ x ∈ ks, (Lit.int .i64 x).wf = true
  | [], ks, h => by have _s := SymT.tab; cases h; simp
  | e :: r, ks, h => by
    simp only [keysL] at h
    split at h
    · rename_i n hk
      cases hw : (Lit.int .i64 n).wf with
      | false => rw [hw] at h; cases h
      | true =>
        rw [hw] at h
        simp only [cond_true, Option.map_eq_some_iff] at h
        obtain ⟨l, hl, rfl⟩ := h
        obtain ⟨h1, h2⟩ := keysL_at hl
        refine ⟨by simp [h1, hk], fun x hx => ?_⟩
        rcases List.mem_cons.1 hx with rfl | hx
        · exact hw
        · exact h2 x hx
    · cases h

def stampB (es : List MapEntry) (ck : Nat) (ks : List Int) : Bool :=
  es.all (fun e => Nat.blt e.born ck) && nodupN (es.map (·.born)) && nodupI ks && Nat.ble es.length 1048576

theorem hasKeys_of {P : Program} {kt : TypeId} (hkt : P.underlying kt = some (.int .i64)) {φ : Phi} {es : List MapEntry} {ck : Nat} {ks : List Int} {l : Loc} {w : World} (hb : BR φ (.map es ck) l w) (hk : keysL es = some ks) (hs : stampB es ck ks = true) : HasKeys P kt w l.b ks := by
  obtain ⟨es', h1, h2⟩ := hb
  obtain ⟨k1, k2⟩ := keysL_at hk
  unfold stampB at hs
  simp only [Bool.and_eq_true, List.all_eq_true] at hs
  obtain ⟨⟨⟨s1, s2⟩, s3⟩, s4⟩ := hs
  have s4 := Nat.le_of_ble_eq_true s4
  have hlen := h2.len
  have hkeys : es'.toList.map (·.key) = es.map (·.key) := by
    refine List.ext_getElem? fun i => ?_
    rw [List.getElem?_map, List.getElem?_map]
    cases he : es[i]? with
    | none => rw [List.getElem?_eq_none_iff] at he; rw [List.getElem?_eq_none (by omega)]
    | some e => obtain ⟨e', g1, g2, _⟩ := h2.at_ i e he; rw [g1]; simp [g2]
  have hborn : es'.toList.map (·.born) = es.map (·.born) := by
    refine List.ext_getElem? fun i => ?_
    rw [List.getElem?_map, List.getElem?_map]
    cases he : es[i]? with
    | none => rw [List.getElem?_eq_none_iff] at he; rw [List.getElem?_eq_none (by omega)]
    | some e => obtain ⟨e', g1, _, _, g2, _⟩ := h2.at_ i e he; rw [g1]; simp [g2]
  have hrd : ∀ x ∈ es'.toList, ∃ n : Int, n ∈ ks ∧ x.key = encZ n := fun x hx => by
    have : x.key ∈ es'.toList.map (·.key) := List.mem_map_of_mem hx
    rw [hkeys, k1] at this
    obtain ⟨n, hn, he⟩ := List.mem_map.1 this
    exact ⟨n, hn, he.symm⟩
  have hkey : ∀ n ∈ ks, keyOf P kt (encZ n) = some (.int .i64 n) := fun n hn => by
    simp [keyOf, hkt, mapKey, k2 n hn]
  have hrg : ∀ x ∈ es'.toList, ∀ n : Int, n ∈ ks → x.key = encZ n → WideElems.rd (H := Unit) P kt (fun _ => some (.nil, [])) x = some (.int .i64 n, .nil) := fun x _ n hn he => by
    simp [WideElems.rd, he, hkey n hn]
  refine ⟨es'.toList.length, _, ⟨es', ck, h1, ⟨?_, ⟨?_, ?_, ?_⟩, ?_⟩, by simp, rfl⟩, ?_, ?_⟩
  · have : maxLen ≥ 1048576 := by decide
    rw [← Array.length_toList]; omega
  · intro x hx
    have : x.born ∈ es'.toList.map (·.born) := List.mem_map_of_mem hx
    rw [hborn] at this
    obtain ⟨e, he, hbe⟩ := List.mem_map.1 this
    rw [← hbe]; exact blt_lt (s1 e he)
  · rw [hborn]; exact nodupN_iff s2
  · rw [hkeys, k1]
    exact List.Pairwise.map _ (fun a b h he => h (encZ_inj he)) (nodupI_iff s3)
  · intro x hx
    obtain ⟨n, hn, he⟩ := hrd x hx
    exact ⟨_, hrg x hx n hn he⟩
  · show ((es'.toList.map _).foldr DataW.insert [] |>.map fun p => intOf p.1).Perm ks
    refine ((WideShapes.sorted_perm _).map _).trans ?_
    have : ((es'.toList.map (WideElems.rg P kt (fun _ => some ((.nil : DataW Unit), [])))).map fun p => intOf p.1) = ks := by
      have hh : ∀ (xs : List MapEntry) (l : List Int), (∀ n ∈ l, keyOf P kt (encZ n) = some (.int .i64 n)) → xs.map (·.key) = l.map encZ → ((xs.map (WideElems.rg P kt (fun _ => some ((.nil : DataW Unit), [])))).map fun p => intOf p.1) = l := by
        intro xs
        induction xs with
        | nil => intro l _ h; cases l with
          | nil => rfl
          | cons a b => simp at h
        | cons x r ih =>
          intro l hl h
          cases l with
          | nil => simp at h
          | cons a b =>
            simp only [List.map_cons, List.cons.injEq] at h ⊢
            refine ⟨?_, ih b (fun n hn => hl n (by simp [hn])) h.2⟩
            simp [WideElems.rg, WideElems.rd, h.1, hl a (by simp), intOf]
      exact hh es'.toList ks hkey (hkeys.trans k1)
    rw [this]
  · show ((es'.toList.map _).foldr DataW.insert []).length ≤ 1048576
    rw [(WideShapes.sorted_perm _).length_eq, List.length_map]
    omega

/-- what a function that hands back a map's keys, sorted, gives: 'fn' the function, 'fnone' what it asks first, the map at offset k of the receiver -/
def KeysFn (P : Program) (fn fnone kt k : Nat) : Prop :=
  ∀ (B off : Nat) (w : World) (Q : World → Prop) (ks : List Int), Calls P fnone #[.pointer (some ⟨B, off, none⟩)] w (fun e w1 => e = .returned (.bool false) ∧ Q w1) →
    (∀ w1, Q w1 → ∃ r, w1.cell? ⟨B, off + k, none⟩ = some (.map (some r)) ∧ HasKeys P kt w1 r ks) →
    Calls P fn #[.pointer (some ⟨B, off, none⟩)] w fun e w2 => ∃ v w1, e = .returned v ∧ Q w1 ∧ w2.ownsRow w1.heap.size kt 1 v ks.length ((isort ks).map encZ) ∧ (v = .slice none 0 0 ↔ ks = []) ∧ Below w1.heap.size w1 w2

noncomputable def keysPrim (none_ : CallT) (fnone k : Nat) (args : List Value) (m : LMem) : Option (Value × LMem) :=
  match args with
  | [.pointer (some ⟨b, off, none⟩)] =>
    match m.get b with
    | some (.cells _) =>
      match none_ fnone [.pointer (some ⟨b, off, none⟩)] m with
      | some (.bool false, m1) => match m1.get b with
        | some (.cells c) => match c[off + k]? with
          | some (.map (some r)) => match m1.get r with
            | some (.map es ck) => match keysL es with
              | some ks => bif stampB es ck ks then
                  (match ks with
                  | [] => some (.slice none 0 0, m1)
                  | x :: xs => match m1.alloc (.cells ((isort (x :: xs)).map encZ)) with
                    | some m2 => some (.slice (some ⟨m1.next, 0, some 1⟩) (xs.length + 1) (xs.length + 1), m2)
                    | none => none)
                else none
              | none => none
            | _ => none
          | _ => none
        | _ => none
      | _ => none
    | _ => none
  | _ => none

theorem Sim.below {n : Nat} {φ : Phi} {w w' : World} (h : Below w.heap.size w w') : Sim n φ φ w w' := by
  have _s := SymT.tab
  have _s := SymT.tab
  exact
  ⟨Ext.refl φ, fun id l h => .inl ⟨id, l, h, rfl⟩, fun _ _ h => h, ⟨h.os, h.tape, h.output, h.size, fun k hk _ => h.block k hk⟩⟩

theorem encZ_VRL {φ : Phi} : ∀ l : List Int, VRL φ (l.map encZ) (l.map encZ)
  | [] => by have _s := SymT.tab; exact .nil
  | x :: r => .cons _ _ _ _ (.int _ x) (encZ_VRL r)

theorem keysPrim_ok {P : Program} {fn fnone kt k : Nat} (hkt : P.underlying kt = some (.int .i64)) (hf : KeysFn P fn fnone kt k) {none_ : CallT} (hn : CallSound P none_) {args : List Value} {m m' : LMem} {v : Value}
    (h : keysPrim none_ fnone k args m = some (v, m')) (hw : WF m) : SC P fn args m v m' := by
  unfold keysPrim at h
  split at h <;> try cases h
  rename_i b off
  split at h <;> try cases h
  rename_i c0 hc0
  split at h <;> try cases h
  rename_i m1 hcall
  obtain ⟨⟨c1, c2⟩, c3⟩ := hn fnone _ m _ m1 hcall hw
  split at h <;> try cases h
  rename_i c hc
  split at h <;> try cases h
  rename_i r hr
  split at h <;> try cases h
  rename_i es ck hes
  split at h <;> try cases h
  rename_i ks hks
  cases hst : stampB es ck ks with
  | false => rw [hst] at h; cases h
  | true =>
  rw [hst] at h
  simp only [cond_true] at h
  -- the walk, at whatever world
  have key : ∀ φ w args', MR φ m.get w → Bd φ m.next → VRL φ [.pointer (some ⟨b, off, none⟩)] args' →
      Calls P fn ⟨args'⟩ w fun e w2 => ∃ v w1 φ1, e = .returned v ∧ (Sim m.next φ φ1 w w1 ∧ MR φ1 m1.get w1 ∧ Bd φ1 m1.next) ∧ w2.ownsRow w1.heap.size kt 1 v ks.length ((isort ks).map encZ) ∧ (v = .slice none 0 0 ↔ ks = []) ∧ Below w1.heap.size w1 w2 := by
    intro φ w args' hm hb ha
    have ha' := ha
    cases ha with
    | cons _ y _ ys hy hys =>
    cases hys
    have hcl := c3 φ w _ hm hb ha'
    cases hy with
    | pdead _ _ _ a hd => rw [hm.dead b hd] at hc0; cases hc0
    | ptr _ _ l hl =>
      refine (hf l.b (l.sh + off) w (fun w1 => ∃ φ1, Sim m.next φ φ1 w w1 ∧ MR φ1 m1.get w1 ∧ Bd φ1 m1.next) ks (hcl.mono fun e w1 ⟨v', φ1, he, hsim, hv, hm1, hb1⟩ => ?_) ?_).mono ?_
      · cases hv
        exact ⟨he, φ1, hsim, hm1, hb1⟩
      · rintro w1 ⟨φ1, hsim, hm1, hb1⟩
        rcases hsim.ext.at hl with h1 | h1
        · obtain ⟨B, g1, g2⟩ := hm1.live b l h1
          rw [hc] at g1
          cases g1
          obtain ⟨c', e, k1, k2, k3, k4⟩ := g2
          obtain ⟨v', k5, k6⟩ := k4 _ _ hr
          have hcell : w1.cell? ⟨l.b, l.sh + off + k, none⟩ = some v' := by
            simp only [World.cell?, k1]
            rw [← k5, Nat.add_assoc]; rfl
          cases k6 with
          | map _ l' hl' =>
            obtain ⟨B, g1, g2⟩ := hm1.live r l' hl'
            rw [hes] at g1
            cases g1
            exact ⟨l'.b, hcell, hasKeys_of hkt g2 hks hst⟩
          | mdead _ r' hd => rw [hm1.dead r hd] at hes; cases hes
        · rw [hm1.dead b h1] at hc; cases hc
      · rintro e w2 ⟨v, w1, he, ⟨φ1, hq⟩, h1, h2, h3⟩
        exact ⟨v, w1, φ1, he, hq, h1, h2, h3⟩
  have hMR : ∀ φ1 w1 w2, MR φ1 m1.get w1 → Below w1.heap.size w1 w2 → MR φ1 m1.get w2 := fun φ1 w1 w2 hm1 hbel =>
    ⟨fun id l hl => by obtain ⟨B, g1, g2⟩ := hm1.live id l hl; exact ⟨B, g1, g2.mono (Ext.refl φ1) (hbel.block _ g2.lt)⟩, hm1.dead, hm1.inj⟩
  cases ks with
  | nil =>
    cases h
    refine ⟨⟨c1, c2⟩, fun φ w args' hm hb ha => (key φ w args' hm hb ha).mono ?_⟩
    rintro e w2 ⟨v, w1, φ1, rfl, ⟨hsim, hm1, hb1⟩, _, hnil, hbel⟩
    rw [hnil.2 rfl]
    exact ⟨_, φ1, rfl, hsim.trans c1 (Sim.below hbel), .snil 0 0, hMR φ1 w1 w2 hm1 hbel, hb1⟩
  | cons x xs =>
    simp only at h
    split at h <;> try cases h
    rename_i m2 hal
    obtain ⟨a1, a2, a3, a4⟩ := LMem.alloc_spec c2 hal
    refine ⟨⟨by omega, a4⟩, fun φ w args' hm hb ha => (key φ w args' hm hb ha).mono ?_⟩
    rintro e w2 ⟨v, w1, φ1, rfl, ⟨hsim, hm1, hb1⟩, hrow, hnil, hbel⟩
    obtain ⟨_, hrow | ⟨g, cap, cur, rfl, r1, r2, r3, r4, r5, r6⟩⟩ := hrow
    · have := hnil.1 hrow.1; cases this
    have hn0 : φ1 m1.next = none := hb1.none (Nat.le_refl _)
    simp only [Nat.mul_one] at r5 r6
    have hglt : g < w2.heap.size := (Array.getElem?_eq_some_iff.1 r2).1
    refine ⟨_, ins φ1 m1.next ⟨g, 0, cap⟩, rfl, hsim.trans c1 ⟨ins_ext hn0, fun id l' hl' => ?_, fun id hid h0 => ?_, (Sim.below (n := 0) (φ := φ1) hbel).fr⟩, ?_, ?_, ?_⟩
    · by_cases he : id = m1.next
      · subst he; rw [ins_same] at hl'; cases hl'; exact .inr r1
      · rw [ins_other he] at hl'; exact .inl ⟨id, l', hl', rfl⟩
    · rw [ins_other (by omega)]; exact h0
    · have := VR.slice (φ := ins φ1 m1.next ⟨g, 0, cap⟩) m1.next 0 (some 1) (xs.length + 1) (xs.length + 1) cap ⟨g, 0, cap⟩ (ins_same _ _ _) (Nat.le_refl _) r3 (fun h => by cases h) (fun e he => by cases he; simp)
      exact this
    · refine (hMR φ1 w1 w2 hm1 hbel).insert hn0 (fun id l' hl' => ?_) a2 (fun j hj _ => a3 j hj) (fun id l' hl' => rfl) ?_
      · obtain ⟨B, g1, g2⟩ := hm1.live id l' hl'
        have := g2.lt
        show l'.b ≠ g
        omega
      · refine ⟨cur, kt, r2, r5, ?_, fun i v hv => ?_⟩
        · show 0 + ((isort (x :: xs)).map encZ).length ≤ cap
          rw [List.length_map, (isort_perm _).length_eq]
          simpa using r3
        · have hv' : ((isort (x :: xs)).map encZ)[i]? = some v := hv
          rw [← r6] at hv'
          have hi : i < (x :: xs).length := by
            rcases Nat.lt_or_ge i (x :: xs).length with hlt | hge
            · exact hlt
            · rw [List.getElem?_take_eq_none hge] at hv'; cases hv'
          rw [List.getElem?_take_of_lt hi] at hv'
          refine ⟨v, ?_, ?_⟩
          · rw [Nat.zero_add]; simpa using hv'
          · have : v ∈ (isort (x :: xs)).map encZ := List.mem_of_getElem? hv
            obtain ⟨n, _, rfl⟩ := List.mem_map.1 this
            exact .int _ n
    · rw [a1]; exact hb1.ins

/-- a primitive for one function -/
noncomputable def keysPrim1 (P : Program) (X : ExtT) (fn fnone k : Nat) : PrimT := fun g => bif Nat.beq g fn then some (keysPrim (callFF P X (fun _ => none) 1000 20) fnone k) else none

theorem keysPrim1_ok {P : Program} {X : ExtT} (hP : POK P X) {fn fnone kt k : Nat} (hkt : P.underlying kt = some (.int .i64)) (hf : KeysFn P fn fnone kt k) : PrimOK P (keysPrim1 P X fn fnone k) := by
  intro g p h args m v m' hp hw
  unfold keysPrim1 at h
  cases hb : Nat.beq g fn with
  | false => rw [hb] at h; cases h
  | true =>
    rw [hb] at h
    cases h
    have := Nat.eq_of_beq_eq_true hb
    subst this
    exact keysPrim_ok hkt hf (by rw [callFF_eq]; exact call_sound hP (noPrim P) 1000 20) hp hw

end Go.Eng
/- Panics, and functions that defer a call which recovers. -/
namespace Go.Eng
section
variable [SymV] [SymT] {P : Program} {X : ExtT} {call pcall : CallT}

/-- operations one after the other, the last of which panics -/
noncomputable def pSeq (P : Program) (X : ExtT) (call pcall : CallT) (ops : List Oper) : List Oper → LF → LMem → Option (Value × LF × LMem)
  | [], _, _ => none
  | o :: r, f, m =>
    bif lwanted ops o f then
      match doOp P X call f o m with
      | some (v, m') => match f.put o.dst v with
        | some f' => pSeq P X call pcall ops r f' m'
        | none => none
      | none => match o.op with
        | .panic x => match f.lev x with
          | .iface t v => some (.iface t v, f, m)
          | _ => none
        | _ => match eop P X f.lev o m with
          | some (.enter g args, m') => match pcall g args m' with
            | some (v, m'') => some (v, f, m'')
            | none => none
          | _ => none
    else match f.put o.dst undef with
      | some f' => pSeq P X call pcall ops r f' m
      | none => none

noncomputable def pexec (P : Program) (X : ExtT) (call pcall : CallT) : Nat → Code → LF → LMem → Option (Value × LF × LMem)
  | 0, _, _, _ => none
  | n + 1, c, f, m =>
    match c with
    | .region _ ops draw => bif draw then none else bif ops.toList.all okOp then pSeq P X call pcall ops.toList ops.toList f m else none
    | .seq a b => match exec P X call n a f m with
      | some (.norm, f', m') => pexec P X call pcall n b f' m'
      | some _ => none
      | none => pexec P X call pcall n a f m
    | .cond x a b => match x with
      | .tmp t => match f.get t with
        | .bool true => pexec P X call pcall n a f m
        | .bool false => pexec P X call pcall n b f m
        | _ => none
      | _ => none
    | .block _ a => pexec P X call pcall n a f m
    | _ => none

noncomputable def pcallF (P : Program) (X : ExtT) (prim : FuncId → Option (List Value → LMem → Option (Value × LMem))) (fuel : Nat) : Nat → CallT
  | 0, _, _, _ => none
  | n + 1, g, args, m =>
    match P.funcs[g]? with
    | none => none
    | some fn => match fn.body with
      | none => none
      | some c =>
        bif Nat.ble args.length fn.ntmps && Nat.ble fn.ntmps 512 then
          match pexec P X (callF P X prim fuel n) (pcallF P X prim fuel n) fuel c { tr := putArgs args 0 (FT.lf none), nt := fn.ntmps } m with
          | some (v, _, m') => some (v, m')
          | none => none
        else none

def PanPost (m m' : LMem) (v : Value) (φ : Phi) (w : World) (e : Ending) (w' : World) : Prop :=
  ∃ v' φ', e = .panicked [{ v := v', recovered := false }] ∧ Sim m.next φ φ' w w' ∧ VR φ' v v' ∧ MR φ' m'.get w' ∧ Bd φ' m'.next

def PCallSound (P : Program) (pcall : CallT) : Prop :=
  ∀ g args m v m', pcall g args m = some (v, m') → WF m → (m.next ≤ m'.next ∧ WF m') ∧
    ∀ φ w args', MR φ m.get w → Bd φ m.next → VRL φ args args' → Calls P g ⟨args'⟩ w (PanPost m m' v φ w)

def PEnds (m m' : LMem) (v : Value) (f' : LF) (φ : Phi) (a : Act) (w : World) (Q : Exit → Act → World → Prop) : Prop :=
  ∀ φ' w' a' v', Sim m.next φ φ' w w' → FR φ' f' a' → MR φ' m'.get w' → Bd φ' m'.next → a'.defers = a.defers → VR φ' v v' → Q (.panic [{ v := v', recovered := false }]) a' w'

theorem PEnds.step {m m1 m' : LMem} {v : Value} {f' : LF} {φ φ1 : Phi} {a a1 : Act} {w w1 : World} {Q : Exit → Act → World → Prop} (hle : m.next ≤ m1.next) (hs : Sim m.next φ φ1 w w1) (hd : a1.defers = a.defers) (hE : PEnds m m' v f' φ a w Q) : PEnds m1 m' v f' φ1 a1 w1 Q := by
  have _s := SymT.tab
  have _s := SymT.tab
  exact
  fun φ2 w2 a2 v2 hs2 hf2 hm2 hb2 hd2 hv2 => hE φ2 w2 a2 v2 (hs.trans hle hs2) hf2 hm2 hb2 (hd2.trans hd) hv2

theorem pSeq_sim (hP : POK P X) (hc : CallSound P call) (hpc : PCallSound P pcall) (ops : Array Oper) {Q : Exit → Act → World → Prop} (hok : ops.toList.all okOp = true) :
    ∀ (r : List Oper) (k : Nat) (f f' : LF) (m m' : LMem) (v : Value), ops.toList.drop k = r → pSeq P X call pcall ops.toList r f m = some (v, f', m') → WF m → LFok f →
      (m.next ≤ m'.next ∧ WF m' ∧ LFok f') ∧ ∀ φ w a, MR φ m.get w → Bd φ m.next → FR φ f a → PEnds m m' v f' φ a w Q → wpOps P ops Q (List.range' k r.length) a w := by
  intro r
  induction r with
  | nil => intro k f f' m m' v _ h; simp [pSeq] at h
  | cons o r ih =>
    intro k f f' m m' v hdrop h hw hlf
    have hk : ops[k]? = some o := by
      have : ops.toList[k]? = some o := by
        have := congrArg List.head? hdrop
        rw [List.head?_drop] at this
        simpa using this
      simpa using this
    have hdrop' : ops.toList.drop (k + 1) = r := by
      rw [← List.drop_drop] at *
      rw [hdrop]; rfl
    have hoko : okOp o = true := List.all_eq_true.1 hok o (List.mem_of_getElem? (l := ops.toList) (i := k) (by simpa using hk))
    unfold pSeq at h
    have hwant : ∀ φ a, FR φ f a → Region.wanted o (yielded ops a.tmps) = lwanted ops.toList o f := fun φ a hf => wanted_sim (fun j w d _ _ => hf.val d) hf.size
    have hput : ∀ {d : Option Nat} {u : Value} {f1 : LF}, f.put d u = some f1 → LFok f1 := by
      intro d u f1 hp
      unfold LF.put at hp
      split at hp
      · cases hp; exact hlf
      · split at hp
        rename_i tr nt
        cases hb : Nat.blt _ nt with
        | false => rw [hb] at hp; cases hp
        | true => rw [hb] at hp; cases hp; exact ⟨hlf.1⟩
    cases hwt : lwanted ops.toList o f with
    | true =>
      simp only [hwt, cond_true] at h
      split at h
      · rename_i u m1 hop
        split at h
        case h_2 => cases h
        rename_i f1 hp1
        obtain ⟨g1, g2⟩ := doOp_sim hP hc hw hop
        obtain ⟨i1, i2⟩ := ih (k + 1) f1 f' m1 m' v hdrop' h g1.2 (hput hp1)
        refine ⟨⟨Nat.le_trans g1.1 i1.1, i1.2⟩, fun φ w a hm hb hf hE => ?_⟩
        rw [List.length_cons, List.range'_succ]
        simp only [wpOps, hk, hwant φ a hf, hwt, if_true]
        left
        refine g2 φ w a hm hb (ops_ok hf hoko) _ _ fun φ1 w1 v1 hs hv hm1 hb1 => ?_
        exact i2 φ1 w1 _ hm1 hb1 ((hf.mono hs.ext).put hp1 hv) (hE.step g1.1 hs (put_defers _ _ _))
      · split at h
        · rename_i x hx
          split at h
          case h_2 => cases h
          rename_i t u hl
          simp only [Option.some.injEq, Prod.mk.injEq] at h
          obtain ⟨rfl, rfl, rfl⟩ := h
          refine ⟨⟨Nat.le_refl _, hw, hlf⟩, fun φ w a hm hb hf hE => ?_⟩
          rw [List.length_cons, List.range'_succ]
          simp only [wpOps, hk, hwant φ a hf, hwt, if_true]
          left
          have hv := ops_ok hf hoko x (by simp [hx, Op.operands])
          rw [hl] at hv
          generalize hq : a.eval x = q at hv
          cases hv with
          | iface _ _ y hy =>
            have hr : (execOp a.eval o).run P w = .halt (.panic (.iface t y)) w := by
              simp [execOp, hx, hq, Instr.panic, goPanic]
            unfold Oper.wp
            rw [hr]
            exact hE φ w a _ (Sim.refl _ φ w) hf hm hb rfl (.iface t u y hy)
        · rename_i hnp
          split at h
          · rename_i g args m1 he
            split at h
            case h_2 => cases h
            rename_i u m2 hpc'
            simp only [Option.some.injEq, Prod.mk.injEq] at h
            obtain ⟨rfl, rfl, rfl⟩ := h
            obtain ⟨g1, g2⟩ := esim hP hw he
            obtain ⟨q1, q2⟩ := hpc g args m1 u m2 hpc' g1.2
            refine ⟨⟨Nat.le_trans g1.1 q1.1, q1.2, hlf⟩, fun φ w a hm hb hf hE => ?_⟩
            rw [List.length_cons, List.range'_succ]
            simp only [wpOps, hk, hwant φ a hf, hwt, if_true]
            left
            obtain ⟨rfl, args', hr, hv⟩ := g2 φ w a.eval hm hb (ops_ok hf hoko)
            unfold Oper.wp
            rw [hr]
            have := q2 φ w args'.toList hm hb hv
            refine Calls.mono this ?_
            rintro e w' ⟨v', φ', rfl, h1, h2, h3, h4⟩
            exact hE φ' w' a v' h1 (hf.mono h1.ext) h3 h4 rfl h2
          · cases h
    | false =>
      simp only [hwt, cond_false] at h
      split at h
      case h_2 => cases h
      rename_i f1 hp1
      obtain ⟨i1, i2⟩ := ih (k + 1) f1 f' m m' v hdrop' h hw (hput hp1)
      refine ⟨i1, fun φ w a hm hb hf hE => ?_⟩
      rw [List.length_cons, List.range'_succ]
      simp only [wpOps, hk, hwant φ a hf, hwt, Bool.false_eq_true, if_false]
      exact i2 φ w _ hm hb (hf.put hp1 VR.undef) (hE.step (Nat.le_refl _) (Sim.refl _ φ w) (put_defers _ _ _))

theorem pexec_sim (hP : POK P X) (hc : CallSound P call) (hpc : PCallSound P pcall) : ∀ (n : Nat) (c : Code) (f f' : LF) (m m' : LMem) (v : Value), pexec P X call pcall n c f m = some (v, f', m') → LFok f → WF m →
    (m.next ≤ m'.next ∧ WF m' ∧ LFok f') ∧ ∀ φ w a, MR φ m.get w → Bd φ m.next → FR φ f a → ∀ Q : Exit → Act → World → Prop, PEnds m m' v f' φ a w Q → c.wp P Q a w := by
  intro n
  induction n with
  | zero => intro c f f' m m' v h; simp [pexec] at h
  | succ n ih =>
    intro c f f' m m' v h hlf hw
    cases c with
    | region id ops draw =>
      simp only [pexec] at h
      cases draw with
      | true => simp only [cond_true] at h; cases h
      | false =>
        simp only [cond_false] at h
        cases hok : ops.toList.all okOp with
        | false => simp only [hok, cond_false] at h; cases h
        | true =>
          simp only [hok, cond_true] at h
          have hs := fun Q => pSeq_sim (Q := Q) hP hc hpc ops hok ops.toList 0 f f' m m' v (by simp) h hw hlf
          refine ⟨(hs fun _ _ _ => True).1, fun φ w a hm hb hf Q hE => wp_region ?_⟩
          have := (hs Q).2 φ w a hm hb hf hE
          rw [← List.range_eq_range'] at this
          simpa using this
    | seq c1 c2 =>
      simp only [pexec] at h
      split at h
      · rename_i f1 m1 h1
        obtain ⟨g1, g2⟩ := (exec_sim hP hc n).1 c1 f f1 m m1 .norm h1 hlf hw
        obtain ⟨q1, q2⟩ := ih c2 f1 f' m1 m' v h g1.2.2 g1.2.1
        refine ⟨⟨Nat.le_trans g1.1 q1.1, q1.2⟩, fun φ w a hm hb hf Q hE => wp_seq ?_⟩
        exact g2 φ w a hm hb hf _ fun φ1 w1 a1 hs1 hf1 hm1 hb1 hd1 => q2 φ1 w1 a1 hm1 hb1 hf1 Q (hE.step g1.1 hs1 hd1)
      · cases h
      · obtain ⟨g1, g2⟩ := ih c1 f f' m m' v h hlf hw
        refine ⟨g1, fun φ w a hm hb hf Q hE => wp_seq ?_⟩
        exact g2 φ w a hm hb hf _ fun φ1 w1 a1 v1 hs1 hf1 hm1 hb1 hd1 hv1 => hE φ1 w1 a1 v1 hs1 hf1 hm1 hb1 hd1 hv1
    | cond o c1 c2 =>
      simp only [pexec] at h
      split at h
      · rename_i t
        have key : ∀ (b : Bool) (c : Code), (if b then c1 else c2) = c → f.get t = .bool b → pexec P X call pcall n c f m = some (v, f', m') → (m.next ≤ m'.next ∧ WF m' ∧ LFok f') ∧
            ∀ φ w a, MR φ m.get w → Bd φ m.next → FR φ f a → ∀ Q : Exit → Act → World → Prop, PEnds m m' v f' φ a w Q → (Code.cond (.tmp t) c1 c2).wp P Q a w := by
          intro b c hb' hl hr
          obtain ⟨g1, g2⟩ := ih c f f' m m' v hr hlf hw
          refine ⟨g1, fun φ w a hm hb hf Q hE => wp_cond (t := b) ?_ (by rw [hb']; exact g2 φ w a hm hb hf Q hE)⟩
          have := hf.eval (x := .tmp t) rfl
          have hl' : f.lev (.tmp t) = .bool b := hl
          rw [hl'] at this
          generalize a.eval (.tmp t) = y at this
          cases this; rfl
        split at h
        · rename_i hl; exact key true c1 rfl hl h
        · rename_i hl; exact key false c2 rfl hl h
        · cases h
      · cases h
    | block id c =>
      simp only [pexec] at h
      obtain ⟨g1, g2⟩ := ih c f f' m m' v h hlf hw
      refine ⟨g1, fun φ w a hm hb hf Q hE => wp_block (g2 φ w a hm hb hf _ fun φ1 w1 a1 v1 hs1 hf1 hm1 hb1 hd1 hv1 => ?_)⟩
      exact hE φ1 w1 a1 v1 hs1 hf1 hm1 hb1 hd1 hv1
    | _ => simp [pexec] at h

theorem pcall_sound (hP : POK P X) {prim : FuncId → Option (List Value → LMem → Option (Value × LMem))} (hp : PrimOK P prim) (fuel : Nat) : ∀ n, PCallSound P (pcallF P X prim fuel n) := by
  intro n
  induction n with
  | zero => intro g args m v m' h; simp [pcallF] at h
  | succ n ih =>
    intro g args m v m' h hw
    simp only [pcallF] at h
    split at h
    · cases h
    · rename_i fn hfn
      split at h
      · cases h
      · rename_i c hbody
        cases hq : (Nat.ble args.length fn.ntmps && Nat.ble fn.ntmps 512) with
        | false => simp only [hq, cond_false] at h; cases h
        | true =>
          simp only [hq, cond_true] at h
          rw [Bool.and_eq_true] at hq
          have hq1 := Nat.le_of_ble_eq_true hq.1
          have hq2 := Nat.le_of_ble_eq_true hq.2
          split at h
          · rename_i u f' m1 hrun
            simp only [Option.some.injEq, Prod.mk.injEq] at h
            obtain ⟨rfl, rfl⟩ := h
            obtain ⟨g1, g2⟩ := pexec_sim hP (call_sound hP hp fuel n) ih fuel c _ f' m m1 u hrun ⟨hq2⟩ hw
            refine ⟨⟨g1.1, g1.2.1⟩, fun φ w args' hm hb hargs => calls_of_wp hfn hbody ?_⟩
            refine g2 φ w _ hm hb (start_frame hargs hq1 hq2) _ fun φ1 w1 a1 v1 hs1 hf1 hm1 hb1 hd1 hv1 => ?_
            exact ⟨hd1, v1, φ1, rfl, hs1, hv1, hm1, hb1⟩
          · cases h

/-- a function that defers a call of one argument, behind its first statement -/
def dshape (c : Code) : Option (Code × FuncId × Nat × Code) :=
  match c with
  | .seq a (.seq (.region _ ops false) b) => match ops.toList with
    | [⟨none, .defer ⟨.value (.func g), args, _⟩, _, _, _, none⟩] => match args.toList with
      | [.tmp x] => some (a, g, x, b)
      | _ => none
    | _ => none
  | _ => none

theorem dshape_is {c a b : Code} {g : FuncId} {x : Nat} (h : dshape c = some (a, g, x, b)) :
    ∃ id tys ty pos after, c = .seq a (.seq (.region id #[⟨none, .defer ⟨.value (.func g), #[.tmp x], tys⟩, ty, pos, after, none⟩] false) b) := by
  have _s := SymT.tab
  unfold dshape at h
  split at h
  · rename_i a0 id ops b0
    split at h
    · rename_i g0 args tys ty pos after ho
      split at h
      · rename_i x0 ha
        simp only [Option.some.injEq, Prod.mk.injEq] at h
        obtain ⟨rfl, rfl, rfl, rfl⟩ := h
        have hops : ops = #[⟨none, .defer ⟨.value (.func g0), args, tys⟩, ty, pos, after, none⟩] := Array.ext' ho
        have hargs : args = #[.tmp x0] := Array.ext' ha
        subst hargs
        exact ⟨id, tys, ty, pos, after, by rw [hops]⟩
      · cases h
    · cases h
  · cases h

/-- a function that asks 'recover' first -/
def rshape (c : Code) : Option (Nat × Code) :=
  match c with
  | .seq (.region _ ops false) b => match ops.toList with
    | [⟨some d, .call ⟨.builtin .recover, args, _⟩, _, _, _, none⟩] => match args.toList with
      | [] => some (d, b)
      | _ => none
    | _ => none
  | _ => none

theorem rshape_is {c b : Code} {d : Nat} (h : rshape c = some (d, b)) :
    ∃ id tys ty pos after, c = .seq (.region id #[⟨some d, .call ⟨.builtin .recover, #[], tys⟩, ty, pos, after, none⟩] false) b := by
  have _s := SymT.tab
  unfold rshape at h
  split at h
  · rename_i id ops b0
    split at h
    · rename_i d0 args tys ty pos after ho
      split at h
      · rename_i ha
        simp only [Option.some.injEq, Prod.mk.injEq] at h
        obtain ⟨rfl, rfl⟩ := h
        have hops : ops = #[⟨some d0, .call ⟨.builtin .recover, args, tys⟩, ty, pos, after, none⟩] := Array.ext' ho
        have hargs : args = #[] := Array.ext' ha
        subst hargs
        exact ⟨id, tys, ty, pos, after, by rw [hops]⟩
      · cases h
    · cases h
  · cases h

/-- the deferred call: 'r' is what its 'recover' gives -/
noncomputable def dtail (P : Program) (X : ExtT) (call : CallT) (fuel : Nat) (gd : FuncId) (arg r : Value) (m : LMem) : Option LMem :=
  match P.funcs[gd]? with
  | none => none
  | some fd => match fd.body with
    | none => none
    | some cd => match rshape cd with
      | none => none
      | some (d, D) =>
        bif Nat.ble 1 fd.ntmps && Nat.ble fd.ntmps 512 then
          match LF.put { tr := putArgs [arg] 0 (FT.lf none), nt := fd.ntmps } (some d) r with
          | none => none
          | some f0 => match exec P X call fuel D f0 m with
            | some (.norm, f1, m1) => (lresults P f1 m1 fd.results.toList).map fun _ => m1
            | some (.ret, f1, m1) => (lresults P f1 m1 fd.results.toList).map fun _ => m1
            | _ => none
        else none

noncomputable def dend (P : Program) (X : ExtT) (call : CallT) (fuel : Nat) (gd : FuncId) (arg r : Value) (rs : List ResultVar) (f : LF) (m : LMem) : Option (Value × LMem) :=
  match dtail P X call fuel gd arg r m with
  | none => none
  | some m' => (lresults P f m' rs).map fun vs => (ltuple vs, m')

noncomputable def dcall (P : Program) (X : ExtT) (call pcall : CallT) (fuel : Nat) (g : FuncId) (args : List Value) (m : LMem) : Option (Value × LMem) :=
  match P.funcs[g]? with
  | none => none
  | some fn => match fn.body with
    | none => none
    | some c => match dshape c with
      | none => none
      | some (A, gd, x, B) =>
        bif Nat.ble args.length fn.ntmps && Nat.ble fn.ntmps 512 then
          match exec P X call fuel A { tr := putArgs args 0 (FT.lf none), nt := fn.ntmps } m with
          | some (.norm, f1, m1) => match exec P X call fuel B f1 m1 with
            | some (.norm, f2, m2) => dend P X call fuel gd (f1.get x) .nilIface fn.results.toList f2 m2
            | some (.ret, f2, m2) => dend P X call fuel gd (f1.get x) .nilIface fn.results.toList f2 m2
            | some _ => none
            | none => match pexec P X call pcall fuel B f1 m1 with
              | some (v, f2, m2) => dend P X call fuel gd (f1.get x) v fn.results.toList f2 m2
              | none => none
          | _ => none
        else none

theorem results_run {fn : Func} {f : LF} {m : LMem} {w : World} {a : Act} {φ : Phi} {vs : List Value} (hm : MR φ m.get w) (hf : FR φ f a) (h : lresults P f m fn.results.toList = some vs) :
    ∃ v', (results fn a.tmps).run P w = .ok v' w ∧ VR φ (ltuple vs) v' := by
  obtain ⟨vs', k1, k2⟩ := results_sim (P := P) (G := fun
    | .tmp t => pure (a.tmps.getD t undef)
    | .cell x t => do loadVar t (← asAddr (a.tmps.getD x undef))) (fun _ => rfl) (fun _ _ => rfl) hm hf fn.results.toList vs h
  refine ⟨_, ?_, tuple_sim k2⟩
  unfold results
  rw [Sem.run_bind, Array.mapM_eq_mapM_toList, Sem.run_map]
  refine Eq.trans (congrArg (fun r => Result.andThen (Result.andThen r _) _) (Eq.trans ?_ k1)) rfl
  rfl

/-- what 'recover' gives in a mode, and the mode behind it -/
def RecMode (u : FrameMode) (r : Value) (u' : FrameMode) : Prop :=
  (u = .returning ∧ r = .nilIface ∧ u' = .returning) ∨ (u = .panicking [{ v := r, recovered := false }] ∧ u' = .panicking [{ v := r, recovered := true }])

theorem RecMode.settles {u u' : FrameMode} {r : Value} (h : RecMode u r u') : settle u' = .returning ∧ u ≠ .run := by
  have _s := SymT.tab
  rcases h with ⟨rfl, rfl, rfl⟩ | ⟨rfl, rfl⟩
  · exact ⟨rfl, by simp⟩
  · exact ⟨rfl, by simp⟩

theorem dtail_sim (hP : POK P X) (hc : CallSound P call) {fuel : Nat} {gd : FuncId} {arg r : Value} {m m' : LMem} (h : dtail P X call fuel gd arg r m = some m') (hw : WF m) :
    (m.next ≤ m'.next ∧ WF m') ∧ (∃ fd c, P.funcs[gd]? = some fd ∧ fd.body = some c) ∧ ∀ φ w arg' r' u u' (R : Ending → FrameMode → World → Prop), MR φ m.get w → Bd φ m.next → VR φ arg arg' → VR φ r r' → RecMode u r' u' →
      (∀ v φ' w', Sim m.next φ φ' w w' → MR φ' m'.get w' → Bd φ' m'.next → R (.returned v) u' w') → CallsD P gd #[arg'] u w R := by
  unfold dtail at h
  split at h
  · cases h
  rename_i fd hfd
  split at h
  · cases h
  rename_i cd hcd
  split at h
  · cases h
  rename_i d D hsh
  cases hq : (Nat.ble 1 fd.ntmps && Nat.ble fd.ntmps 512) with
  | false => simp only [hq, cond_false] at h; cases h
  | true =>
    simp only [hq, cond_true] at h
    rw [Bool.and_eq_true] at hq
    have hq1 := Nat.le_of_ble_eq_true hq.1
    have hq2 := Nat.le_of_ble_eq_true hq.2
    split at h
    · cases h
    rename_i f0 hput
    obtain ⟨id, tys, ty, pos, after, hcode⟩ := rshape_is hsh
    have hf0 : LFok f0 := by
      unfold LF.put at hput
      simp only at hput
      cases hb : Nat.blt d fd.ntmps with
      | false => rw [hb] at hput; cases hput
      | true => rw [hb] at hput; cases hput; exact ⟨hq2⟩
    have key : ∀ (x : LX) (f1 : LF) (m1 : LMem), (x = .norm ∨ x = .ret) → exec P X call fuel D f0 m = some (x, f1, m1) → (lresults P f1 m1 fd.results.toList).map (fun _ => m1) = some m' →
        (m.next ≤ m'.next ∧ WF m') ∧ (∃ fd c, P.funcs[gd]? = some fd ∧ fd.body = some c) ∧ ∀ φ w arg' r' u u' (R : Ending → FrameMode → World → Prop), MR φ m.get w → Bd φ m.next → VR φ arg arg' → VR φ r r' → RecMode u r' u' →
          (∀ v φ' w', Sim m.next φ φ' w w' → MR φ' m'.get w' → Bd φ' m'.next → R (.returned v) u' w') → CallsD P gd #[arg'] u w R := by
      intro x f1 m1 hx hrun hres
      simp only [Option.map_eq_some_iff] at hres
      obtain ⟨vs, hvs, rfl⟩ := hres
      obtain ⟨g1, g2⟩ := (exec_sim hP hc fuel).1 D f0 f1 m m1 x hrun hf0 hw
      refine ⟨⟨g1.1, g1.2.1⟩, ⟨fd, cd, hfd, hcd⟩, fun φ w arg' r' u u' R hm hb hv hr hrec hR => callsD_of_wpS hfd hcd fun c₀ cs hmode => ?_⟩
      rw [hcode]
      refine wpS_seq (wpS_region ?_)
      have hfr : FR φ { tr := putArgs [arg] 0 (FT.lf none), nt := fd.ntmps } { tmps := (⟨[arg']⟩ : Array Value) ++ Array.replicate (fd.ntmps - (⟨[arg']⟩ : Array Value).size) undef, defers := [] } :=
        start_frame (.cons _ _ _ _ hv .nil) (by simpa using hq1) hq2
      have hfr2 := hfr.put hput hr
      have hex : ∀ (a : Act), (execOp a.eval ⟨some d, .call ⟨.builtin .recover, #[], tys⟩, ty, pos, after, none⟩).run P w = .ok .recover w := by
        intro a
        simp [execOp, resolve, invoke, builtin]
      have fin : ∀ (cs' : List Frame), cs' = { c₀ with mode := u' } :: cs → Code.wpS P D (bodyPostS P fd c₀ cs R) (Act.put { tmps := (⟨[arg']⟩ : Array Value) ++ Array.replicate (fd.ntmps - (⟨[arg']⟩ : Array Value).size) undef, defers := [] } (some d) r') cs' w := by
        intro cs' hcs
        refine wpS_of_wp (g2 φ w _ hm hb hfr2 _ fun φ3 w3 a3 hs3 hf3 hm3 hb3 hd3 => ?_)
        obtain ⟨v3, hv3, _⟩ := results_run (P := P) hm3 hf3 hvs
        have hpost : a3.defers = [] ∧ ∃ u'', cs' = { c₀ with mode := u'' } :: cs ∧ ∃ v, (results fd a3.tmps).run P w3 = .ok v w3 ∧ R (.returned v) u'' w3 :=
          ⟨hd3, u', hcs, v3, hv3, hR v3 φ3 w3 hs3 hm3 hb3⟩
        rcases hx with rfl | rfl
        · exact hpost
        · exact hpost
      have hwant : ∀ t, Region.wanted ⟨some d, .call ⟨.builtin .recover, #[], tys⟩, ty, pos, after, none⟩ t = true := fun _ => rfl
      show wpOpsS P _ _ [0] _ _ _
      simp only [wpOpsS, List.getElem?_toArray, List.getElem?_cons_zero, hwant, if_true, hex]
      rcases hrec with ⟨rfl, rfl, rfl⟩ | ⟨rfl, rfl⟩
      · have hr0 : recoverD (c₀ :: cs) = none := by simp [recoverD, hmode]
        simp only [hr0]
        exact fin _ (by rw [← hmode])
      · have hr0 : recoverD (c₀ :: cs) = some (r', { c₀ with mode := .panicking [{ v := r', recovered := true }] } :: cs) := by simp [recoverD, hmode]
        simp only [hr0]
        exact fin _ rfl
    split at h
    · rename_i f1 m1 hrun; exact key .norm f1 m1 (.inl rfl) hrun h
    · rename_i f1 m1 hrun; exact key .ret f1 m1 (.inr rfl) hrun h
    · cases h

theorem dcall_sound (hP : POK P X) (hc : CallSound P call) (hpc : PCallSound P pcall) {fuel : Nat} {g : FuncId} {args : List Value} {m m' : LMem} {v : Value} (h : dcall P X call pcall fuel g args m = some (v, m')) (hw : WF m) : SC P g args m v m' := by
  unfold dcall at h
  split at h
  · cases h
  rename_i fn hfn
  split at h
  · cases h
  rename_i c hbody
  split at h
  · cases h
  rename_i A gd x B hsh
  obtain ⟨id, tys, ty, pos, after, hcode⟩ := dshape_is hsh
  cases hq : (Nat.ble args.length fn.ntmps && Nat.ble fn.ntmps 512) with
  | false => simp only [hq, cond_false] at h; cases h
  | true =>
    simp only [hq, cond_true] at h
    rw [Bool.and_eq_true] at hq
    have hq1 := Nat.le_of_ble_eq_true hq.1
    have hq2 := Nat.le_of_ble_eq_true hq.2
    split at h
    case h_2 => cases h
    rename_i f1 m1 hA
    obtain ⟨a1, a2⟩ := (exec_sim hP hc fuel).1 A _ f1 m m1 .norm hA ⟨hq2⟩ hw
    -- the function's way to the deferred call, and from there
    have fin : ∀ (r : Value) (f2 : LF) (m2 : LMem), m1.next ≤ m2.next → WF m2 → dend P X call fuel gd (f1.get x) r fn.results.toList f2 m2 = some (v, m') →
        (∀ φ w a, MR φ m1.get w → Bd φ m1.next → FR φ f1 a → ∀ Q : Exit → Act → World → Prop,
          (∀ φ' w' a' r' u u' e, Sim m1.next φ φ' w w' → FR φ' f2 a' → MR φ' m2.get w' → Bd φ' m2.next → a'.defers = a.defers → VR φ' r r' → RecMode u r' u' →
            (e = .normal ∧ u = .returning ∨ e = .ret ∧ u = .returning ∨ e = .panic [{ v := r', recovered := false }] ∧ u = .panicking [{ v := r', recovered := false }]) → Q e a' w') → B.wp P Q a w) →
        SC P g args m v m' := by
      intro r f2 m2 hle2 hw2 hend hB
      unfold dend at hend
      split at hend
      · cases hend
      rename_i m3 ht
      simp only [Option.map_eq_some_iff, Prod.mk.injEq] at hend
      obtain ⟨vs, hvs, rfl, rfl⟩ := hend
      obtain ⟨t1, ⟨fd, cd, hfd, hcd⟩, t2⟩ := dtail_sim hP hc ht hw2
      refine ⟨⟨Nat.le_trans a1.1 (Nat.le_trans hle2 t1.1), t1.2⟩, fun φ w args' hm hb hargs => calls_of_wp_defers hfn hbody ?_⟩
      rw [hcode]
      refine wp_seq (a2 φ w _ hm hb (start_frame hargs hq1 hq2) _ fun φ1 w1 b1 hs1 hf1 hm1 hb1 hd1 => ?_)
      refine wp_seq (wp_region ?_)
      have hex : (execOp b1.eval ⟨none, .defer ⟨.value (.func gd), #[.tmp x], tys⟩, ty, pos, after, none⟩).run P w1 = .ok (.defer { target := .fn (.func gd) #[], args := #[b1.eval (.tmp x)] }) w1 := by
        simp [execOp, resolve, Act.eval, Deferred.ofValue]
      have hwant : ∀ t, Region.wanted ⟨none, .defer ⟨.value (.func gd), #[.tmp x], tys⟩, ty, pos, after, none⟩ t = true := fun _ => rfl
      show wpOps P _ _ [0] _ _
      simp only [wpOps, List.getElem?_toArray, List.getElem?_cons_zero, hwant, if_true]
      left
      unfold Oper.wp
      rw [hex]
      have hx1 : VR φ1 (f1.get x) (b1.eval (.tmp x)) := hf1.eval (x := .tmp x) rfl
      show B.wp P _ { b1 with defers := { target := .fn (.func gd) #[], args := #[b1.eval (.tmp x)] } :: b1.defers } w1
      refine hB φ1 w1 { b1 with defers := { target := .fn (.func gd) #[], args := #[b1.eval (.tmp x)] } :: b1.defers } hm1 hb1 ⟨hf1.size, hf1.ok, hf1.val⟩ _ fun φ2 w2 b2 r' u u' e hs2 hf2 hm2 hb2 hd2 hr2 hrec he => ?_
      have hdef : b2.defers = [{ target := .fn (.func gd) #[], args := #[b1.eval (.tmp x)] }] := by rw [hd2, hd1]
      have hleave : Leaves P fn b2.tmps (CallPost m m3 (ltuple vs) φ w) b2.defers u w2 := by
        rw [hdef]
        refine ⟨hrec.settles.2, .func gd, #[], gd, #[b1.eval (.tmp x)], rfl, ?_, ?_⟩
        · have hn := hP.num gd fd hfd
          simp only [invoke, callFunc, Sem.run_bind, run_program, Result.andThen_ok, hfd]
          simp [hn, hcd]
        · refine t2 φ2 w2 _ r' u u' _ hm2 hb2 (hx1.mono hs2.ext) hr2 hrec fun v3 φ3 w3 hs3 hm3 hb3 => ?_
          show Leaves P fn b2.tmps (CallPost m m3 (ltuple vs) φ w) [] (settle u') w3
          rw [hrec.settles.1]
          obtain ⟨v4, hv4, hv5⟩ := results_run (P := P) hm3 (hf2.mono hs3.ext) hvs
          exact ⟨v4, hv4, v4, φ3, rfl, (hs1.trans a1.1 hs2).trans (Nat.le_trans a1.1 hle2) hs3, hv5, hm3, hb3⟩
      rcases he with ⟨rfl, rfl⟩ | ⟨rfl, rfl⟩ | ⟨rfl, rfl⟩
      · exact hleave
      · exact hleave
      · exact hleave
    split at h
    · rename_i f2 m2 hB
      obtain ⟨b1, b2⟩ := (exec_sim hP hc fuel).1 B f1 f2 m1 m2 .norm hB a1.2.2 a1.2.1
      refine fin .nilIface f2 m2 b1.1 b1.2.1 h fun φ w a hm hb hf Q hQ => b2 φ w a hm hb hf Q fun φ' w' a' hs hf' hm' hb' hd' => ?_
      exact hQ φ' w' a' .nilIface .returning .returning _ hs hf' hm' hb' hd' .nilIface (.inl ⟨rfl, rfl, rfl⟩) (.inl ⟨rfl, rfl⟩)
    · rename_i f2 m2 hB
      obtain ⟨b1, b2⟩ := (exec_sim hP hc fuel).1 B f1 f2 m1 m2 .ret hB a1.2.2 a1.2.1
      refine fin .nilIface f2 m2 b1.1 b1.2.1 h fun φ w a hm hb hf Q hQ => b2 φ w a hm hb hf Q fun φ' w' a' hs hf' hm' hb' hd' => ?_
      exact hQ φ' w' a' .nilIface .returning .returning _ hs hf' hm' hb' hd' .nilIface (.inl ⟨rfl, rfl, rfl⟩) (.inr (.inl ⟨rfl, rfl⟩))
    · cases h
    · split at h
      · rename_i r f2 m2 hB
        obtain ⟨b1, b2⟩ := pexec_sim hP hc hpc fuel B f1 f2 m1 m2 r hB a1.2.2 a1.2.1
        refine fin r f2 m2 b1.1 b1.2.1 h fun φ w a hm hb hf Q hQ => b2 φ w a hm hb hf Q fun φ' w' a' r' hs hf' hm' hb' hd' hr' => ?_
        exact hQ φ' w' a' r' _ _ _ hs hf' hm' hb' hd' hr' (.inr ⟨rfl, rfl⟩) (.inr (.inr ⟨rfl, rfl⟩))
      · cases h

/-- a function that defers, as a primitive: what it calls is run without primitives -/
noncomputable def deferPrim (P : Program) (X : ExtT) (gs : List FuncId) : FuncId → Option (List Value → LMem → Option (Value × LMem)) :=
  fun g => bif gs.any (Nat.beq g) then some (dcall P X (callF P X (fun _ => none) 10000 30) (pcallF P X (fun _ => none) 10000 30) 10000 g) else none

theorem deferPrim_ok (hP : POK P X) (gs : List FuncId) : PrimOK P (deferPrim P X gs) := by
  intro g p h args m v m' hp hw
  unfold deferPrim at h
  cases hb : gs.any (Nat.beq g) with
  | false => rw [hb] at h; cases h
  | true =>
    rw [hb] at h
    simp only [cond_true, Option.some.injEq] at h
    subst h
    exact dcall_sound hP (call_sound hP (noPrim P) 10000 30) (pcall_sound hP (noPrim P) 10000 30) hp hw
end
end Go.Eng
/- Ranges over functions: the logical run. -/
namespace Go.Eng
variable [SymV] [SymT]

/-- the state of an iterator's run: its frame, the memory, the temporaries that hold yield, the jump that a round has left -/
structure IS where
  f : LF
  m : LMem
  Y : List Nat
  p : Option LX

abbrev YT := List Value → LMem → Option (LX × LMem)

def isY (Y : List Nat) (i : Nat) : Bool := Y.any fun j => Nat.beq j i

def offY (Y : List Nat) : Operand → Bool
  | .tmp i => !isY Y i
  | x => okOperand x

def dstOff (Y : List Nat) : Option Nat → Bool
  | none => true
  | some d => !isY Y d

def mvY (Y : List Nat) : Op → Bool
  | .move (.tmp t) => isY Y t
  | _ => false

def clY (Y : List Nat) : Op → Option (List Operand)
  | .call { callee := .value (.tmp t), args, .. } => bif isY Y t then some args.toList else none
  | _ => none

def notDef : Op → Bool
  | .defer _ => false
  | _ => true

def isNorm : LX → Bool
  | .norm => true
  | _ => false

def pend : LX → Option LX
  | .norm => none
  | x => some x

noncomputable def stepI (P : Program) (X : ExtT) (call : CallT) (yf : YT) (o : Oper) (s : IS) : Option IS :=
  bif o.guard.isSome then none else
  bif mvY s.Y o.op then (match o.dst with
    | some d => (s.f.put (some d) undef).map fun f' => { s with f := f', Y := d :: s.Y }
    | none => none)
  else match clY s.Y o.op with
    | some args => bif args.all (offY s.Y) && dstOff s.Y o.dst then (match s.p with
      | some _ => none
      | none => match yf (args.map s.f.lev) s.m with
        | some (x, m') => (s.f.put o.dst (.bool (isNorm x))).map fun f' => { f := f', m := m', Y := s.Y, p := pend x }
        | none => none) else none
    | none => bif o.op.operands.toList.all (offY s.Y) && dstOff s.Y o.dst && notDef o.op then (match doOp P X call s.f o s.m with
      | some (v, m') => (s.f.put o.dst v).map fun f' => { s with f := f', m := m' }
      | none => none) else none

noncomputable def irun (P : Program) (X : ExtT) (call : CallT) (yf : YT) : List Oper → IS → Option IS
  | [], s => some s
  | o :: r, s => match stepI P X call yf o s with
    | some s' => irun P X call yf r s'
    | none => none

noncomputable def iexec (P : Program) (X : ExtT) (call : CallT) (yf : YT) : Nat → Code → IS → Option (LX × IS)
  | 0, _, _ => none
  | n + 1, c, s =>
    match c with
    | .skip => some (.norm, s)
    | .region _ ops draw => bif draw then none else (irun P X call yf ops.toList s).map fun s' => (.norm, s')
    | .seq a b => match iexec P X call yf n a s with
      | some (.norm, s') => iexec P X call yf n b s'
      | r => r
    | .cond x a b => bif offY s.Y x then (match s.f.lev x with
      | .bool true => iexec P X call yf n a s
      | .bool false => iexec P X call yf n b s
      | _ => none) else none
    | .block id a => match iexec P X call yf n a s with
      | some (.exit j, s') => bif Nat.beq j id then some (.norm, s') else some (.exit j, s')
      | r => r
    | .loop a => match iexec P X call yf n a s with
      | some (.norm, s') => iexec P X call yf n (.loop a) s'
      | r => r
    | .exit id => some (.exit id, s)
    | .ret => some (.ret, s)
    | _ => none

noncomputable def putPs : List Nat → List Value → LF → Option LF
  | p :: ps, v :: vs, f => match f.put (some p) v with
    | some f' => putPs ps vs f'
    | none => none
  | [], [], f => some f
  | _, _, _ => none

/-- one round: the caller's frame as it was, with the parameters -/
noncomputable def roundF (ex : Code → LF → LMem → Option (LX × LF × LMem)) (ps : List Nat) (assign body : Code) (f : LF) : YT := fun args m =>
  match putPs ps args f with
  | some f1 => match ex assign f1 m with
    | some (.norm, f2, m2) => match ex body f2 m2 with
      | some (x, _, m3) => some (x, m3)
      | none => none
    | _ => none
  | none => none

def leftBy (s : IS) : LX := match s.p with
  | none => .norm
  | some x => x

noncomputable def rangeF (P : Program) (X : ExtT) (call : CallT) (fuel : Nat) (ex : Code → LF → LMem → Option (LX × LF × LMem)) (g : Operand) (ps : Array Tmp) (assign body : Code) (f : LF) (m : LMem) : Option (LX × LF × LMem) :=
  bif okOperand g then (match f.lev g with
    | .func (.func gi) ⟨[]⟩ lb => match P.funcs[gi]? with
      | some fn => match fn.body with
        | some c => bif Nat.ble (lb.toList.length + 1) fn.ntmps && Nat.ble fn.ntmps 512 && fn.results.toList.isEmpty then (match iexec P X call (roundF ex ps.toList assign body f) fuel c { f := { tr := putArgs (undef :: lb.toList) 0 (FT.lf none), nt := fn.ntmps }, m := m, Y := [0], p := none } with
          | some (.norm, s) => some (leftBy s, f, s.m)
          | some (.ret, s) => some (leftBy s, f, s.m)
          | _ => none) else none
        | none => none
      | none => none
    | _ => none) else none

end Go.Eng
/- Code that is run in a round of a range over a function: the engine's run is one of the model's there too. -/
namespace Go.Eng
variable [SymV] [SymT]

/-- the wide fence, in a round or in none -/
abbrev FW (r : Option Nat) : Fence := { Fence.wide with round := r }

def noDef (ops : List Oper) : Bool := ops.all fun o => notDef o.op

/-- code that may stand in a round -/
def okR : Code → Bool
  | .region _ ops _ => noDef ops.toList
  | .seq a b => okR a && okR b
  | .cond _ a b => okR a && okR b
  | .block _ a => okR a
  | .loop a => okR a
  | .scope _ => false
  | .rangeFunc _ _ _ _ => false
  | _ => true

section
variable {P : Program} {X : ExtT} {call : CallT} {r : Option Nat}

theorem callsFW {n : Nat} {f : FuncId} {args : Array Value} {w : World} {R : Ending → World → Prop} (h : Calls P f args w R) : CallsIn (FW r) n P f args w R := by
  have _s := SymT.tab
  exact (callsIn_wide (n := n)).2 h

theorem operIn {n : Nat} {o : Oper} {a : Act} {w : World} {K : Act → World → Prop} {Q : Exit → Act → World → Prop} (hd : ∀ c, o.op ≠ .defer c) (h : o.wp P a w K Q) : o.wpIn (FW r) n P a w K Q := by
  have _s := SymT.tab
  refine ⟨fun _ _ => trivial, ?_⟩
  rw [Oper.semAt_eq _ _ _ hd]
  unfold Oper.wp at h
  generalize (execOp a.eval o).run P w = x at h ⊢
  cases x with
  | ok nx w' =>
    cases nx with
    | enter f args =>
      simp only [Oper.upon] at h
      simp only [Oper.uponIn]
      refine ⟨fun hs => (by cases hs), callsFW (Calls.mono h fun e w'' he => ?_)⟩
      cases e <;> exact he
    | row row args =>
      simp only [Oper.upon] at h
      simp only [Oper.uponIn]
      refine ⟨fun hs => (by cases hs), fun c cs _ => ?_⟩
      obtain ⟨v, w'', h1, h2⟩ := h c cs
      exact ⟨v, w'', h1, stepsIn_wide.2 h2⟩
    | _ => first | exact h | exact False.elim h
  | halt x w' =>
    cases x <;> first | exact h | exact False.elim h

theorem noDef_at {ops : Array Oper} (hd : noDef ops.toList = true) {i : Nat} {o : Oper} (ho : ops[i]? = some o) : ∀ c, o.op ≠ .defer c := by
  have _s := SymT.tab
  intro c hc
  have := List.all_eq_true.1 hd o (List.mem_of_getElem? (l := ops.toList) (i := i) (by simpa using ho))
  rw [hc] at this; cases this

theorem opsIn {n : Nat} {ops : Array Oper} {Q : Exit → Act → World → Prop} (hd : noDef ops.toList = true) (hQ : ¬ LetsOut Q) : ∀ (l : List Nat) (a : Act) (w : World), wpOps P ops Q l a w → wpOpsIn (FW r) n P ops Q l a w := by
  have _s := SymT.tab
  intro l
  induction l with
  | nil => intro a w h; exact h
  | cons i l ih =>
    intro a w h
    rw [wpOps_cons] at h
    rw [wpOpsIn_cons]
    unfold wpOp at h
    unfold wpOpIn
    cases ho : ops[i]? with
    | none => simp only [ho] at h; exact ih a w h
    | some o =>
      simp only [ho] at h ⊢
      split
      · rename_i hw
        simp only [hw, if_true] at h
        exact Oper.wpIn_mono (fun a w => ih a w) (operIn (noDef_at hd ho) (h.resolve_right fun h => hQ h.2))
      · rename_i hw
        simp only [hw] at h
        exact ⟨fun _ _ => trivial, ih _ _ h⟩

theorem anyIn {n : Nat} {ops : Array Oper} {md : Region.Mode} {Q : Exit → Act → World → Prop} (hd : noDef ops.toList = true) (hQ : ¬ LetsOut Q) : ∀ (fuel : Nat) (listed : Array Bool) (a : Act) (w : World),
    wpAny P md ops Q fuel listed a w → wpAnyIn (FW r) n P md ops Q fuel listed a w := by
  have _s := SymT.tab
  intro fuel
  induction fuel with
  | zero => intro listed a w h; exact h
  | succ fuel ih =>
    intro listed a w h
    refine ⟨h.1, fun i hi => ?_⟩
    have h := h.2 i hi
    unfold wpOp at h
    unfold wpOpIn
    cases ho : ops[i]? with
    | none => simp only [ho] at h; exact ih _ a w h
    | some o =>
      simp only [ho] at h ⊢
      split
      · rename_i hw
        simp only [hw, if_true] at h
        exact Oper.wpIn_mono (fun a w => ih _ a w) (operIn (noDef_at hd ho) (h.resolve_right fun h => hQ h.2))
      · rename_i hw
        simp only [hw] at h
        exact ⟨fun _ _ => trivial, ih _ _ _ h⟩

/-- only the way out at the end -/
def onlyN (Q : Exit → Act → World → Prop) : Exit → Act → World → Prop
  | .normal, a, w => Q .normal a w
  | _, _, _ => False

theorem onlyN_out (Q : Exit → Act → World → Prop) : ¬ LetsOut (onlyN Q) := by
  have _s := SymT.tab
  rintro ⟨a, w, h⟩; exact h
theorem onlyN_mono {Q : Exit → Act → World → Prop} : ∀ e a w, onlyN Q e a w → Q e a w := by
  have _s := SymT.tab
  intro e a w h
  cases e <;> first | exact h | exact h.elim

def ExecIn (P : Program) (X : ExtT) (call : CallT) (r : Option Nat) (n : Nat) : Prop :=
  ∀ (c : Code) (f f' : LF) (m m' : LMem) (x : LX), exec P X call n c f m = some (x, f', m') → okR c = true → LFok f → WF m → (m.next ≤ m'.next ∧ WF m' ∧ LFok f') ∧
    ∀ φ w a, MR φ m.get w → Bd φ m.next → FR φ f a → ∀ Q : Exit → Act → World → Prop, Ends m m' f' φ a w (Q (xit x)) → c.wpIn (FW r) 0 P Q a w

def LoopIn (P : Program) (X : ExtT) (call : CallT) (r : Option Nat) (n : Nat) : Prop :=
  ∀ (c : Code) (f f' : LF) (m m' : LMem) (x : LX), exec P X call n (.loop c) f m = some (x, f', m') → okR c = true → LFok f → WF m → (m.next ≤ m'.next ∧ WF m' ∧ LFok f') ∧
    ∀ φ w a, MR φ m.get w → Bd φ m.next → FR φ f a → ∀ Q : Exit → Act → World → Prop, Ends m m' f' φ a w (Q (xit x)) → Code.roundsIn (FW r) 0 P c Q n a w

theorem exec_simIn (hP : POK P X) (hc : CallSound P call) : ∀ n, ExecIn P X call r n ∧ LoopIn P X call r n := by
  intro n
  induction n with
  | zero => exact ⟨fun c f f' m m' x h => by simp [exec] at h, fun c f f' m m' x h => by simp [exec] at h⟩
  | succ n ih =>
    obtain ⟨ihE, ihL⟩ := ih
    have hL : LoopIn P X call r (n + 1) := by
      intro c f f' m m' x h hk hnt hw
      simp only [exec] at h
      split at h
      · rename_i f1 m1 h1
        obtain ⟨g1, g2⟩ := ihE c f f1 m m1 .norm h1 hk hnt hw
        obtain ⟨q1, q2⟩ := ihL c f1 f' m1 m' x h hk g1.2.2 g1.2.1
        refine ⟨⟨Nat.le_trans g1.1 q1.1, q1.2⟩, fun φ w a hm hb hf Q hE => ?_⟩
        rw [roundsIn_succ]
        exact g2 φ w a hm hb hf _ fun φ1 w1 a1 hs1 hf1 hm1 hb1 hd1 => q2 φ1 w1 a1 hm1 hb1 hf1 Q (hE.step g1.1 hs1 hd1)
      · rename_i hno
        obtain ⟨g1, g2⟩ := ihE c f f' m m' x h hk hnt hw
        refine ⟨g1, fun φ w a hm hb hf Q hE => ?_⟩
        rw [roundsIn_succ]
        refine g2 φ w a hm hb hf _ fun φ1 w1 a1 hs1 hf1 hm1 hb1 hd1 => ?_
        have := hE φ1 w1 a1 hs1 hf1 hm1 hb1 hd1
        cases x with
        | norm => exact absurd h (hno f' m')
        | exit id => exact this
        | ret => exact this
    refine ⟨?_, hL⟩
    intro c f f' m m' x h hk hnt hw
    cases c with
    | skip =>
      simp only [exec, Option.some.injEq, Prod.mk.injEq] at h
      obtain ⟨rfl, rfl, rfl⟩ := h
      exact ⟨⟨Nat.le_refl _, hw, hnt⟩, fun φ w a hm hb hf Q hE => wpIn_skip (hE φ w a (Sim.refl _ φ w) hf hm hb rfl)⟩
    | region id ops draw =>
      simp only [exec] at h
      cases draw with
      | true =>
        simp only [cond_true] at h
        cases hreg : regOK ops.toList with
        | false => simp only [hreg, cond_false] at h; cases h
        | true =>
          simp only [hreg, cond_true, Option.map_eq_some_iff, Prod.mk.injEq] at h
          obtain ⟨⟨f1, m1⟩, hrun, rfl, rfl, rfl⟩ := h
          obtain ⟨g1, g2⟩ := draw_any hP hc hreg hnt hrun hw
          exact ⟨g1, fun φ w a hm hb hf Q hE => wpIn_mono (wpIn_region_any hP.mixed (anyIn hk (onlyN_out Q) _ _ _ _ (g2 φ w a hm hb hf hE))) onlyN_mono⟩
      | false =>
        simp only [cond_false] at h
        cases hok : ops.toList.all okOp with
        | false => simp only [hok, cond_false] at h; cases h
        | true =>
          simp only [hok, cond_true, Option.map_eq_some_iff, Prod.mk.injEq] at h
          obtain ⟨⟨f1, m1⟩, hrun, rfl, rfl, rfl⟩ := h
          have hs := fun Q => seq_sim (Q := Q) hP hc ops hok ops.toList 0 f f1 m m1 (by simp) hrun hw
          refine ⟨⟨(hs fun _ _ _ => True).1.1, (hs fun _ _ _ => True).1.2, runSeq_ok hrun hnt⟩, fun φ w a hm hb hf Q hE => wpIn_mono (wpIn_region ?_) (onlyN_mono (Q := Q))⟩
          have := (hs (onlyN Q)).2 φ w a hm hb hf hE
          rw [← List.range_eq_range'] at this
          exact opsIn hk (onlyN_out Q) _ _ _ (by simpa using this)
    | seq c1 c2 =>
      simp only [okR, Bool.and_eq_true] at hk
      simp only [exec] at h
      split at h
      · rename_i f1 m1 h1
        obtain ⟨g1, g2⟩ := ihE c1 f f1 m m1 .norm h1 hk.1 hnt hw
        obtain ⟨q1, q2⟩ := ihE c2 f1 f' m1 m' x h hk.2 g1.2.2 g1.2.1
        refine ⟨⟨Nat.le_trans g1.1 q1.1, q1.2⟩, fun φ w a hm hb hf Q hE => wpIn_seq ?_⟩
        exact g2 φ w a hm hb hf _ fun φ1 w1 a1 hs1 hf1 hm1 hb1 hd1 => q2 φ1 w1 a1 hm1 hb1 hf1 Q (hE.step g1.1 hs1 hd1)
      · rename_i hno
        obtain ⟨g1, g2⟩ := ihE c1 f f' m m' x h hk.1 hnt hw
        refine ⟨g1, fun φ w a hm hb hf Q hE => wpIn_seq ?_⟩
        refine g2 φ w a hm hb hf _ fun φ1 w1 a1 hs1 hf1 hm1 hb1 hd1 => ?_
        have := hE φ1 w1 a1 hs1 hf1 hm1 hb1 hd1
        cases x with
        | norm => exact absurd h (hno f' m')
        | exit id => exact this
        | ret => exact this
    | cond o c1 c2 =>
      simp only [okR, Bool.and_eq_true] at hk
      have key : ∀ (t : Bool) (b : Code), (if t then c1 else c2) = b → okR b = true → okOperand o = true ∨ (∃ v, o = .const v) → f.lev o = .bool t → exec P X call n b f m = some (x, f', m') → (m.next ≤ m'.next ∧ WF m' ∧ LFok f') ∧
          ∀ φ w a, MR φ m.get w → Bd φ m.next → FR φ f a → ∀ Q : Exit → Act → World → Prop, Ends m m' f' φ a w (Q (xit x)) → (Code.cond o c1 c2).wpIn (FW r) 0 P Q a w := by
        intro t b hb' hkb ho hl hr
        obtain ⟨g1, g2⟩ := ihE b f f' m m' x hr hkb hnt hw
        refine ⟨g1, fun φ w a hm hb hf Q hE => wpIn_cond (t := t) ?_ (by rw [hb']; exact g2 φ w a hm hb hf Q hE)⟩
        rcases ho with ho | ⟨v, rfl⟩
        · have := hf.eval ho
          rw [hl] at this
          generalize a.eval o = y at this
          cases this; rfl
        · exact hl
      have hop : okOperand o = true ∨ (∃ v, o = .const v) ∨ ∃ g, o = .global g := by
        cases o with
        | tmp t => exact .inl rfl
        | const v => exact .inr (.inl ⟨v, rfl⟩)
        | global g => exact .inr (.inr ⟨g, rfl⟩)
        | func g => exact .inl rfl
      simp only [exec] at h
      split at h
      · cases h
      · rename_i hng
        have hop' : okOperand o = true ∨ (∃ v, o = .const v) := by
          rcases hop with h1 | h1 | ⟨g, h1⟩
          · exact .inl h1
          · exact .inr h1
          · exact absurd h1 (hng g)
        split at h
        · rename_i hl; exact key true c1 rfl hk.1 hop' hl h
        · rename_i hl; exact key false c2 rfl hk.2 hop' hl h
        · cases h
    | block id c =>
      simp only [exec] at h
      split at h
      · rename_i j f1 m1 h1
        obtain ⟨g1, g2⟩ := ihE c f f1 m m1 (.exit j) h1 hk hnt hw
        cases hj : Nat.beq j id with
        | true =>
          simp only [hj, cond_true, Option.some.injEq, Prod.mk.injEq] at h
          obtain ⟨rfl, rfl, rfl⟩ := h
          have := Nat.eq_of_beq_eq_true hj
          subst this
          refine ⟨g1, fun φ w a hm hb hf Q hE => wpIn_block (g2 φ w a hm hb hf _ fun φ1 w1 a1 hs1 hf1 hm1 hb1 hd1 => ?_)⟩
          simp only [xit, Exit.inBlock, if_true]
          exact hE φ1 w1 a1 hs1 hf1 hm1 hb1 hd1
        | false =>
          simp only [hj, cond_false, Option.some.injEq, Prod.mk.injEq] at h
          obtain ⟨rfl, rfl, rfl⟩ := h
          have hne : ¬ j = id := fun h0 => by rw [h0, Nat.beq_refl] at hj; cases hj
          refine ⟨g1, fun φ w a hm hb hf Q hE => wpIn_block (g2 φ w a hm hb hf _ fun φ1 w1 a1 hs1 hf1 hm1 hb1 hd1 => ?_)⟩
          simp only [xit, Exit.inBlock, if_neg hne]
          exact hE φ1 w1 a1 hs1 hf1 hm1 hb1 hd1
      · rename_i hno
        obtain ⟨g1, g2⟩ := ihE c f f' m m' x h hk hnt hw
        refine ⟨g1, fun φ w a hm hb hf Q hE => wpIn_block (g2 φ w a hm hb hf _ fun φ1 w1 a1 hs1 hf1 hm1 hb1 hd1 => ?_)⟩
        have := hE φ1 w1 a1 hs1 hf1 hm1 hb1 hd1
        cases x with
        | norm => exact this
        | exit j => exact absurd h (hno j f' m')
        | ret => exact this
    | loop c =>
      obtain ⟨g1, g2⟩ := hL c f f' m m' x h hk hnt hw
      exact ⟨g1, fun φ w a hm hb hf Q hE => wpIn_loop_rounds (n + 1) (g2 φ w a hm hb hf Q hE)⟩
    | exit id =>
      simp only [exec, Option.some.injEq, Prod.mk.injEq] at h
      obtain ⟨rfl, rfl, rfl⟩ := h
      exact ⟨⟨Nat.le_refl _, hw, hnt⟩, fun φ w a hm hb hf Q hE => wpIn_exit (hE φ w a (Sim.refl _ φ w) hf hm hb rfl)⟩
    | ret =>
      simp only [exec, Option.some.injEq, Prod.mk.injEq] at h
      obtain ⟨rfl, rfl, rfl⟩ := h
      exact ⟨⟨Nat.le_refl _, hw, hnt⟩, fun φ w a hm hb hf Q hE => wpIn_ret (hE φ w a (Sim.refl _ φ w) hf hm hb rfl)⟩
    | rangeFunc _ _ _ _ => cases hk
    | scope c => cases hk
    | label _ =>
      simp only [exec, Option.some.injEq, Prod.mk.injEq] at h
      obtain ⟨rfl, rfl, rfl⟩ := h
      exact ⟨⟨Nat.le_refl _, hw, hnt⟩, fun φ w a hm hb hf Q hE => wpIn_label (hE φ w a (Sim.refl _ φ w) hf hm hb rfl)⟩
    | goto _ => simp [exec] at h
    | refuse _ => simp [exec] at h
end
end Go.Eng
/- The iterator of a range over a function, and its rounds. -/
namespace Go.Eng
variable [SymV] [SymT]
section
variable {P : Program} {X : ExtT} {call : CallT}

theorem simPut {n : Nat} {φ0 φ : Phi} {w0 w : World} (h : Sim n φ0 φ w0 w) {l : Nat} (o : Obj) (hl : w0.heap.size ≤ l) : Sim n φ0 φ w0 (w.putObj l o) := by
  have _s := SymT.tab
  exact ⟨h.ext, h.new, h.un, ⟨h.fr.os, h.fr.tape, h.fr.output, by rw [World.putObj_size]; exact h.fr.size, fun b hb hne => (World.putObj_heap_other (by omega)).trans (h.fr.same b hb hne)⟩⟩

theorem mrPut {φ : Phi} {G : Nat → Option LB} {w : World} (h : MR φ G w) {l : Nat} (o : Obj) (hl : ∀ id loc, φ id = some (some loc) → loc.b ≠ l) : MR φ G (w.putObj l o) := by
  have _s := SymT.tab
  exact ⟨fun id loc hloc => let ⟨b, h1, h2⟩ := h.live id loc hloc; ⟨b, h1, h2.mono (Ext.refl φ) (World.putObj_heap_other (hl id loc hloc))⟩, h.dead, h.inj⟩

/-- the loop's record, and the block for deferred calls -/
structure RI (l D : Nat) (rc : Loop) (φ : Phi) (w : World) : Prop where
  lp : w.heap[l]? = some (.loop rc)
  df : w.heap[D]? = some (.deferred (some []))
  ol : ∀ id loc, φ id = some (some loc) → loc.b ≠ l ∧ loc.b ≠ D

theorem RI.step {l D : Nat} {rc : Loop} {n : Nat} {φ φ' : Phi} {w w' : World} (h : RI l D rc φ w) (hs : Sim n φ φ' w w') : RI l D rc φ' w' := by
  have _s := SymT.tab
  have h1 := (Array.getElem?_eq_some_iff.1 h.lp).1
  have h2 := (Array.getElem?_eq_some_iff.1 h.df).1
  refine ⟨(hs.fr.same l h1 fun id loc hl => (h.ol id loc hl).1).trans h.lp, (hs.fr.same D h2 fun id loc hl => (h.ol id loc hl).2).trans h.df, fun id loc hl => ?_⟩
  rcases hs.new id loc hl with ⟨jd, l0, h3, h4⟩ | h3
  · rw [← h4]; exact h.ol jd l0 h3
  · omega

theorem RI.put {l D : Nat} {rc : Loop} (rc' : Loop) {φ : Phi} {w : World} (h : RI l D rc φ w) (hne : D ≠ l) : RI l D rc' φ (w.putObj l (.loop rc')) := by
  have _s := SymT.tab
  exact ⟨World.putObj_heap_same (Array.getElem?_eq_some_iff.1 h.lp).1, (World.putObj_heap_other hne).trans h.df, h.ol⟩

def jc : LX → Option Code
  | .norm => none
  | .exit id => some (.exit id)
  | .ret => some .ret

def jst : LX → LoopState
  | .norm => .ready
  | _ => .done

/-- what a call of yield must give -/
def YieldOK (P : Program) (l D : Nat) (R : LX → Loop) (n0 : Nat) (φ0 : Phi) (w0 : World) (yf : YT) : Prop :=
  ∀ args m x m', yf args m = some (x, m') → WF m → n0 ≤ m.next → (m.next ≤ m'.next ∧ WF m') ∧
    ∀ φ w args', Sim n0 φ0 φ w0 w → MR φ m.get w → Bd φ m.next → VRL φ args args' → RI l D (R .norm) φ w →
      ∃ fn tmps assign body, (Instr.yield l ⟨args'⟩).run P w = .ok (.round l fn tmps assign body) w ∧
        RoundIn (FW none) 0 P l fn tmps assign body w fun e w' => ∃ φ', e = .returned (.bool (isNorm x)) ∧ Sim n0 φ0 φ' w0 w' ∧ Ext φ φ' ∧ MR φ' m'.get w' ∧ Bd φ' m'.next ∧ RI l D (R x) φ' w'

/-- the iterator's frame: yield in some temporaries -/
structure FRY (Y : List Nat) (l : Nat) (φ : Phi) (f : LF) (a : Act) : Prop where
  size : a.tmps.size = f.nt
  ok : LFok f
  val : ∀ i, isY Y i = false → VR φ (f.get i) (a.tmps.getD i undef)
  yl : ∀ i, isY Y i = true → a.tmps.getD i undef = .func (.yield l) #[] #[]

theorem put_get {a : Act} {d : Nat} {v : Value} (h : d < a.tmps.size) (i : Nat) : (a.put (some d) v).tmps.getD i undef = if i = d then v else a.tmps.getD i undef := by
  have _s := SymT.tab
  by_cases he : i = d
  · subst he; simp [Act.put, h]
  · simp [Act.put, Array.getElem?_setIfInBounds_ne (Ne.symm he), he]

theorem FRY.mono {Y : List Nat} {l : Nat} {φ φ' : Phi} {f : LF} {a : Act} (h : FRY Y l φ f a) (he : Ext φ φ') : FRY Y l φ' f a := by
  have _s := SymT.tab
  exact ⟨h.size, h.ok, fun i hi => (h.val i hi).mono he, h.yl⟩

theorem FRY.put {Y : List Nat} {l : Nat} {φ : Phi} {f f' : LF} {a : Act} {dst : Option Nat} {v v' : Value} (h : FRY Y l φ f a) (hd : dstOff Y dst = true) (hp : f.put dst v = some f') (hv : VR φ v v') : FRY Y l φ f' (a.put dst v') := by
  cases dst with
  | none => simp [LF.put] at hp; subst hp; exact h
  | some d =>
    obtain ⟨h1, h0, h2, h3⟩ := LF.get_put h.ok hp
    have hlt : d < a.tmps.size := by rw [h.size]; exact h2
    have hd' : isY Y d = false := by simpa [dstOff] using hd
    refine ⟨by simp [Act.put, h.size, h1], h0, fun i hi => ?_, fun i hi => ?_⟩
    · rw [h3 i, put_get hlt]
      by_cases he : i = d
      · rw [if_pos he, if_pos he]; exact hv
      · rw [if_neg he, if_neg he]; exact h.val i hi
    · rw [put_get hlt, if_neg (fun he => by rw [he, hd'] at hi; cases hi)]
      exact h.yl i hi

theorem FRY.putY {Y : List Nat} {l : Nat} {φ : Phi} {f f' : LF} {a : Act} {d : Nat} {v : Value} (h : FRY Y l φ f a) (hp : f.put (some d) v = some f') : FRY (d :: Y) l φ f' (a.put (some d) (.func (.yield l) #[] #[])) := by
  obtain ⟨h1, h0, h2, h3⟩ := LF.get_put h.ok hp
  have hlt : d < a.tmps.size := by rw [h.size]; exact h2
  have hY : ∀ i, isY (d :: Y) i = (Nat.beq d i || isY Y i) := fun i => rfl
  refine ⟨by simp [Act.put, h.size, h1], h0, fun i hi => ?_, fun i hi => ?_⟩
  · rw [hY, Bool.or_eq_false_iff] at hi
    have hne : i ≠ d := fun he => by rw [he, Nat.beq_refl] at hi; cases hi.1
    rw [h3 i, put_get hlt, if_neg hne, if_neg hne]
    exact h.val i hi.2
  · rw [put_get hlt]
    by_cases he : i = d
    · rw [if_pos he]
    · rw [if_neg he]
      rw [hY, Bool.or_eq_true] at hi
      rcases hi with hi | hi
      · exact absurd (Nat.eq_of_beq_eq_true hi).symm he
      · exact h.yl i hi

theorem FRY.eval {Y : List Nat} {l : Nat} {φ : Phi} {f : LF} {a : Act} (h : FRY Y l φ f a) {x : Operand} (hx : offY Y x = true) : VR φ (f.lev x) (a.eval x) := by
  have _s := SymT.tab
  have _s := SymT.tab
  cases x with
  | tmp i => exact h.val i (by simpa [offY] using hx)
  | const v => exact VR.refl 7 v (Nat.eq_of_beq_eq_true hx)
  | global g => cases hx
  | func g => exact .func _ _ _ _ _ .nil .nil

/-- the state between two operations of the iterator -/
structure II (l D : Nat) (R : LX → Loop) (n0 : Nat) (φ0 : Phi) (w0 : World) (s : IS) (φ : Phi) (w : World) (a : Act) : Prop where
  sim : Sim n0 φ0 φ w0 w
  mr : MR φ s.m.get w
  bd : Bd φ s.m.next
  fr : FRY s.Y l φ s.f a
  ri : RI l D (R (leftBy s)) φ w
  df : a.defers = []

structure WI (n0 : Nat) (s : IS) : Prop where
  wf : WF s.m
  ok : LFok s.f
  ge : n0 ≤ s.m.next

theorem mvY_spec {Y : List Nat} {op : Op} (h : mvY Y op = true) : ∃ t, op = .move (.tmp t) ∧ isY Y t = true := by
  have _s := SymT.tab
  unfold mvY at h
  split at h
  · exact ⟨_, rfl, h⟩
  · cases h

theorem clY_spec {Y : List Nat} {op : Op} {args : List Operand} (h : clY Y op = some args) : ∃ t qas ts, op = .call { callee := .value (.tmp t), args := qas, argTypes := ts } ∧ qas.toList = args ∧ isY Y t = true := by
  have _s := SymT.tab
  unfold clY at h
  split at h
  · rename_i t qas ts
    cases hy : isY Y t with
    | false => simp [hy] at h
    | true => simp [hy] at h; exact ⟨t, qas, ts, rfl, by simpa using h, hy⟩
  · cases h

variable {l D : Nat} {R : LX → Loop} {n0 : Nat} {φ0 : Phi} {w0 : World} {yf : YT}

theorem stepI_sim (hP : POK P X) (hc : CallSound P call) (hy : YieldOK P l D R n0 φ0 w0 yf) {o : Oper} {s s' : IS} (h : stepI P X call yf o s = some s') (hw : WI n0 s) :
    (s.m.next ≤ s'.m.next ∧ WI n0 s') ∧ o.guard = none ∧ ∀ φ w a, II l D R n0 φ0 w0 s φ w a → ∀ (K : Act → World → Prop) (Q : Exit → Act → World → Prop),
      (∀ φ' w' a', II l D R n0 φ0 w0 s' φ' w' a' → K a' w') → o.wpIn (FW none) 0 P a w K Q := by
  unfold stepI at h
  cases hg : o.guard with
  | some g => simp only [hg, Option.isSome_some, cond_true] at h; cases h
  | none =>
    simp only [hg, Option.isSome_none, cond_false] at h
    cases hmv : mvY s.Y o.op with
    | true =>
      simp only [hmv, cond_true] at h
      split at h
      case h_2 => cases h
      rename_i d hd
      simp only [Option.map_eq_some_iff] at h
      obtain ⟨f', hp, rfl⟩ := h
      refine ⟨⟨Nat.le_refl _, hw.wf, (hw.ok.put hp).1, hw.ge⟩, rfl, fun φ w a hI K Q hK => ?_⟩
      obtain ⟨t, hop, ht⟩ := mvY_spec hmv
      refine ⟨fun _ _ => trivial, ?_⟩
      rw [Oper.semAt_none]
      unfold execOp
      rw [hop]
      show K (a.put o.dst (a.eval (.tmp t))) w
      have : a.eval (.tmp t) = .func (.yield l) #[] #[] := hI.fr.yl t ht
      rw [this, hd]
      exact hK φ w _ ⟨hI.sim, hI.mr, hI.bd, hI.fr.putY hp, hI.ri, by rw [put_defers]; exact hI.df⟩
    | false =>
      simp only [hmv, cond_false] at h
      split at h
      · rename_i args hcl
        cases hq : (args.all (offY s.Y) && dstOff s.Y o.dst) with
        | false => simp only [hq, cond_false] at h; cases h
        | true =>
          simp only [hq, cond_true] at h
          rw [Bool.and_eq_true] at hq
          split at h
          · cases h
          · rename_i hp0
            split at h
            case h_2 => cases h
            rename_i x m1 hyf
            simp only [Option.map_eq_some_iff] at h
            obtain ⟨f', hp, rfl⟩ := h
            obtain ⟨g1, g2⟩ := hy _ _ _ _ hyf hw.wf hw.ge
            refine ⟨⟨g1.1, g1.2, (hw.ok.put hp).1, Nat.le_trans hw.ge g1.1⟩, rfl, fun φ w a hI K Q hK => ?_⟩
            obtain ⟨t, qas, ts, hop, has, ht⟩ := clY_spec hcl
            have hri : RI l D (R .norm) φ w := by have := hI.ri; unfold leftBy at this; rw [hp0] at this; exact this
            have hargs : VRL φ (args.map s.f.lev) (args.map a.eval) := VRL.map fun y hy' => hI.fr.eval (List.all_eq_true.1 hq.1 y hy')
            obtain ⟨fn, tmps, assign, body, hrun, hround⟩ := g2 φ w _ hI.sim hI.mr hI.bd hargs hri
            have hev : a.eval (.tmp t) = .func (.yield l) #[] #[] := hI.fr.yl t ht
            refine ⟨fun _ _ => trivial, ?_⟩
            rw [Oper.semAt_none]
            have he : (execOp a.eval o).run P w = .ok (.round l fn tmps assign body) w := by
              unfold execOp
              rw [hop]
              simp only [resolve, hev, Deferred.ofValue, Sem.run_bind, Sem.run_pure, Result.andThen_ok, invoke]
              rw [← hrun]
              congr 2
              apply Array.ext'
              simp [has]
            rw [he]
            refine ⟨fun hs => (by cases hs), hround.mono fun e w' hpost => ?_⟩
            obtain ⟨φ', rfl, q1, q2, q3, q4, q5⟩ := hpost
            refine hK φ' w' _ ⟨q1, q3, q4, (hI.fr.mono q2).put hq.2 hp (.bool _), ?_, by rw [put_defers]; exact hI.df⟩
            cases x <;> exact q5
      · cases hq : (o.op.operands.toList.all (offY s.Y) && dstOff s.Y o.dst && notDef o.op) with
        | false => simp only [hq, cond_false] at h; cases h
        | true =>
          simp only [hq, cond_true] at h
          rw [Bool.and_eq_true, Bool.and_eq_true] at hq
          split at h
          case h_2 => cases h
          rename_i v m1 hdo
          simp only [Option.map_eq_some_iff] at h
          obtain ⟨f', hp, rfl⟩ := h
          obtain ⟨g1, g2⟩ := doOp_sim hP hc hw.wf hdo
          refine ⟨⟨g1.1, g1.2, (hw.ok.put hp).1, Nat.le_trans hw.ge g1.1⟩, rfl, fun φ w a hI K Q hK => ?_⟩
          refine operIn (fun c hc' => ?_) (g2 φ w a hI.mr hI.bd (fun x hx => hI.fr.eval (List.all_eq_true.1 hq.1.1 x hx)) K Q fun φ1 w1 v1 hs hv hm1 hb1 => ?_)
          · have := hq.2; rw [hc'] at this; cases this
          · exact hK φ1 w1 _ ⟨hI.sim.trans hw.ge hs, hm1, hb1, (hI.fr.mono hs.ext).put hq.1.2 hp hv, hI.ri.step hs, by rw [put_defers]; exact hI.df⟩

theorem irun_sim (hP : POK P X) (hc : CallSound P call) (hy : YieldOK P l D R n0 φ0 w0 yf) (ops : Array Oper) {Q : Exit → Act → World → Prop} :
    ∀ (r : List Oper) (k : Nat) (s s' : IS), ops.toList.drop k = r → irun P X call yf r s = some s' → WI n0 s →
      (s.m.next ≤ s'.m.next ∧ WI n0 s') ∧ ∀ φ w a, II l D R n0 φ0 w0 s φ w a → (∀ φ' w' a', II l D R n0 φ0 w0 s' φ' w' a' → Q .normal a' w') → wpOpsIn (FW none) 0 P ops Q (List.range' k r.length) a w := by
  intro r
  induction r with
  | nil =>
    intro k s s' _ h hw
    simp only [irun, Option.some.injEq] at h
    subst h
    exact ⟨⟨Nat.le_refl _, hw⟩, fun φ w a hI hQ => hQ φ w a hI⟩
  | cons o r ih =>
    intro k s s' hdrop h hw
    have hk : ops[k]? = some o := by
      have : ops.toList[k]? = some o := by
        have := congrArg List.head? hdrop
        rw [List.head?_drop] at this
        simpa using this
      simpa using this
    have hdrop' : ops.toList.drop (k + 1) = r := by
      rw [← List.drop_drop] at *
      rw [hdrop]; rfl
    simp only [irun] at h
    split at h
    case h_2 => cases h
    rename_i s1 h1
    obtain ⟨g1, g2, g3⟩ := stepI_sim hP hc hy h1 hw
    obtain ⟨i1, i2⟩ := ih (k + 1) s1 s' hdrop' h g1.2
    refine ⟨⟨Nat.le_trans g1.1 i1.1, i1.2⟩, fun φ w a hI hQ => ?_⟩
    have hwant : Region.wanted o (yielded ops a.tmps) = true := by unfold Region.wanted; rw [g2]
    rw [List.length_cons, List.range'_succ]
    simp only [wpOpsIn, hk, hwant, if_true]
    exact g3 φ w a hI _ _ fun φ1 w1 a1 hI1 => i2 φ1 w1 a1 hI1 hQ

def IExec (P : Program) (X : ExtT) (call : CallT) (l D : Nat) (R : LX → Loop) (n0 : Nat) (φ0 : Phi) (w0 : World) (yf : YT) (n : Nat) : Prop :=
  ∀ (c : Code) (s s' : IS) (x : LX), iexec P X call yf n c s = some (x, s') → WI n0 s → (s.m.next ≤ s'.m.next ∧ WI n0 s') ∧
    ∀ φ w a, II l D R n0 φ0 w0 s φ w a → ∀ Q : Exit → Act → World → Prop, (∀ φ' w' a', II l D R n0 φ0 w0 s' φ' w' a' → Q (xit x) a' w') → c.wpIn (FW none) 0 P Q a w

def ILoop (P : Program) (X : ExtT) (call : CallT) (l D : Nat) (R : LX → Loop) (n0 : Nat) (φ0 : Phi) (w0 : World) (yf : YT) (n : Nat) : Prop :=
  ∀ (c : Code) (s s' : IS) (x : LX), iexec P X call yf n (.loop c) s = some (x, s') → WI n0 s → (s.m.next ≤ s'.m.next ∧ WI n0 s') ∧
    ∀ φ w a, II l D R n0 φ0 w0 s φ w a → ∀ Q : Exit → Act → World → Prop, (∀ φ' w' a', II l D R n0 φ0 w0 s' φ' w' a' → Q (xit x) a' w') → Code.roundsIn (FW none) 0 P c Q n a w

theorem iexec_sim (hP : POK P X) (hc : CallSound P call) (hy : YieldOK P l D R n0 φ0 w0 yf) : ∀ n, IExec P X call l D R n0 φ0 w0 yf n ∧ ILoop P X call l D R n0 φ0 w0 yf n := by
  intro n
  induction n with
  | zero => exact ⟨fun c s s' x h => by simp [iexec] at h, fun c s s' x h => by simp [iexec] at h⟩
  | succ n ih =>
    obtain ⟨ihE, ihL⟩ := ih
    have hL : ILoop P X call l D R n0 φ0 w0 yf (n + 1) := by
      intro c s s' x h hw
      simp only [iexec] at h
      split at h
      · rename_i s1 h1
        obtain ⟨g1, g2⟩ := ihE c s s1 .norm h1 hw
        obtain ⟨q1, q2⟩ := ihL c s1 s' x h g1.2
        refine ⟨⟨Nat.le_trans g1.1 q1.1, q1.2⟩, fun φ w a hI Q hQ => ?_⟩
        rw [roundsIn_succ]
        exact g2 φ w a hI _ fun φ1 w1 a1 hI1 => q2 φ1 w1 a1 hI1 Q hQ
      · rename_i hno
        obtain ⟨g1, g2⟩ := ihE c s s' x h hw
        refine ⟨g1, fun φ w a hI Q hQ => ?_⟩
        rw [roundsIn_succ]
        refine g2 φ w a hI _ fun φ1 w1 a1 hI1 => ?_
        have := hQ φ1 w1 a1 hI1
        cases x with
        | norm => exact absurd h (hno s')
        | exit id => exact this
        | ret => exact this
    refine ⟨?_, hL⟩
    intro c s s' x h hw
    cases c with
    | skip =>
      simp only [iexec, Option.some.injEq, Prod.mk.injEq] at h
      obtain ⟨rfl, rfl⟩ := h
      exact ⟨⟨Nat.le_refl _, hw⟩, fun φ w a hI Q hQ => wpIn_skip (hQ φ w a hI)⟩
    | region id ops draw =>
      simp only [iexec] at h
      cases draw with
      | true => simp at h
      | false =>
        simp only [cond_false, Option.map_eq_some_iff, Prod.mk.injEq] at h
        obtain ⟨s1, hrun, rfl, rfl⟩ := h
        have hs := fun Q => irun_sim (Q := Q) hP hc hy ops ops.toList 0 s s1 (by simp) hrun hw
        refine ⟨(hs fun _ _ _ => True).1, fun φ w a hI Q hQ => wpIn_region ?_⟩
        have := (hs Q).2 φ w a hI hQ
        rw [← List.range_eq_range'] at this
        simpa using this
    | seq c1 c2 =>
      simp only [iexec] at h
      split at h
      · rename_i s1 h1
        obtain ⟨g1, g2⟩ := ihE c1 s s1 .norm h1 hw
        obtain ⟨q1, q2⟩ := ihE c2 s1 s' x h g1.2
        exact ⟨⟨Nat.le_trans g1.1 q1.1, q1.2⟩, fun φ w a hI Q hQ => wpIn_seq (g2 φ w a hI _ fun φ1 w1 a1 hI1 => q2 φ1 w1 a1 hI1 Q hQ)⟩
      · rename_i hno
        obtain ⟨g1, g2⟩ := ihE c1 s s' x h hw
        refine ⟨g1, fun φ w a hI Q hQ => wpIn_seq (g2 φ w a hI _ fun φ1 w1 a1 hI1 => ?_)⟩
        have := hQ φ1 w1 a1 hI1
        cases x with
        | norm => exact absurd h (hno s')
        | exit id => exact this
        | ret => exact this
    | cond o c1 c2 =>
      simp only [iexec] at h
      cases ho : offY s.Y o with
      | false => simp only [ho, cond_false] at h; cases h
      | true =>
        simp only [ho, cond_true] at h
        have key : ∀ (t : Bool) (b : Code), (if t then c1 else c2) = b → s.f.lev o = .bool t → iexec P X call yf n b s = some (x, s') → (s.m.next ≤ s'.m.next ∧ WI n0 s') ∧
            ∀ φ w a, II l D R n0 φ0 w0 s φ w a → ∀ Q : Exit → Act → World → Prop, (∀ φ' w' a', II l D R n0 φ0 w0 s' φ' w' a' → Q (xit x) a' w') → (Code.cond o c1 c2).wpIn (FW none) 0 P Q a w := by
          intro t b hb' hl hr
          obtain ⟨g1, g2⟩ := ihE b s s' x hr hw
          refine ⟨g1, fun φ w a hI Q hQ => wpIn_cond (t := t) ?_ (by rw [hb']; exact g2 φ w a hI Q hQ)⟩
          have := hI.fr.eval ho
          rw [hl] at this
          generalize a.eval o = y at this
          cases this; rfl
        split at h
        · rename_i hl; exact key true c1 rfl hl h
        · rename_i hl; exact key false c2 rfl hl h
        · cases h
    | block id c =>
      simp only [iexec] at h
      split at h
      · rename_i j s1 h1
        obtain ⟨g1, g2⟩ := ihE c s s1 (.exit j) h1 hw
        cases hj : Nat.beq j id with
        | true =>
          simp only [hj, cond_true, Option.some.injEq, Prod.mk.injEq] at h
          obtain ⟨rfl, rfl⟩ := h
          have := Nat.eq_of_beq_eq_true hj
          subst this
          refine ⟨g1, fun φ w a hI Q hQ => wpIn_block (g2 φ w a hI _ fun φ1 w1 a1 hI1 => ?_)⟩
          simp only [xit, Exit.inBlock, if_true]
          exact hQ φ1 w1 a1 hI1
        | false =>
          simp only [hj, cond_false, Option.some.injEq, Prod.mk.injEq] at h
          obtain ⟨rfl, rfl⟩ := h
          have hne : ¬ j = id := fun h0 => by rw [h0, Nat.beq_refl] at hj; cases hj
          refine ⟨g1, fun φ w a hI Q hQ => wpIn_block (g2 φ w a hI _ fun φ1 w1 a1 hI1 => ?_)⟩
          simp only [xit, Exit.inBlock, if_neg hne]
          exact hQ φ1 w1 a1 hI1
      · rename_i hno
        obtain ⟨g1, g2⟩ := ihE c s s' x h hw
        refine ⟨g1, fun φ w a hI Q hQ => wpIn_block (g2 φ w a hI _ fun φ1 w1 a1 hI1 => ?_)⟩
        have := hQ φ1 w1 a1 hI1
        cases x with
        | norm => exact this
        | exit j => exact absurd h (hno j s')
        | ret => exact this
    | loop c =>
      obtain ⟨g1, g2⟩ := hL c s s' x h hw
      exact ⟨g1, fun φ w a hI Q hQ => wpIn_loop_rounds (n + 1) (g2 φ w a hI Q hQ)⟩
    | exit id =>
      simp only [iexec, Option.some.injEq, Prod.mk.injEq] at h
      obtain ⟨rfl, rfl⟩ := h
      exact ⟨⟨Nat.le_refl _, hw⟩, fun φ w a hI Q hQ => wpIn_exit (hQ φ w a hI)⟩
    | ret =>
      simp only [iexec, Option.some.injEq, Prod.mk.injEq] at h
      obtain ⟨rfl, rfl⟩ := h
      exact ⟨⟨Nat.le_refl _, hw⟩, fun φ w a hI Q hQ => wpIn_ret (hQ φ w a hI)⟩
    | rangeFunc _ _ _ _ => simp [iexec] at h
    | scope c => simp [iexec] at h
    | label _ => simp [iexec] at h
    | goto _ => simp [iexec] at h
    | refuse _ => simp [iexec] at h
end
end Go.Eng
