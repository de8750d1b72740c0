/- The engine's logical operations. -/
import Derived.Test.YtopofdjgfbimnaaGreatEngA
namespace Go.Eng
variable [SymV] [SymT]

def symEq (x y : Value) : Option Bool :=
  bif isSym x || isSym y then (match slook .eql x y SymT.tab with
    | some (.bool b) => some b
    | _ => none) else none

structure LF where
  tr : TF Value
  nt : Nat

noncomputable def LF.get (f : LF) (i : Nat) : Value := LF.rec (motive := fun _ => Value) (fun tr nt => Bool.rec undef (Option.rec undef (fun v => v) (TF.get tr i)) (Nat.blt i nt)) f

noncomputable def LF.lev (f : LF) : Operand → Value
  | .tmp i => f.get i
  | .const v => v
  | .global _ => undef
  | .func g => .func (.func g) #[] #[]

def isAggD : TypeDesc → Bool
  | .struct _ => true
  | .array _ _ => true
  | _ => false

/-- a part of a value's cells -/
def lpart (P : Program) (t : TypeId) (c : List Value) (off : Nat) : Option Value :=
  match P.underlying t, P.info? t with
  | some d, some i => bif isAggD d then some (.agg ⟨(c.drop off).take i.size⟩) else c[off]?
  | _, _ => none

/-- a variable read out of a block's cells -/
def lload (P : Program) (t : TypeId) (c : List Value) (off : Nat) : Option Value :=
  match P.underlying t, P.info? t with
  | some d, some i => bif isAggD d then (let vs := (c.drop off).take i.size; bif Nat.beq vs.length i.size then some (.agg ⟨vs⟩) else none) else c[off]?
  | _, _ => none

def leqF (eq : TypeId → Value → Value → Option Bool) (P : Program) (xs ys : List Value) : List Field → Option Bool
  | [] => some true
  | f :: fs =>
    if f.name ≠ "_" then
      match lpart P f.type xs f.offset, lpart P f.type ys f.offset with
      | some a, some b => match eq f.type a b with
        | some true => leqF eq P xs ys fs
        | some false => some false
        | none => none
      | _, _ => none
    else leqF eq P xs ys fs

def leqA (eq : TypeId → Value → Value → Option Bool) (P : Program) (e : TypeId) (c : Nat) (xs ys : List Value) : List Nat → Option Bool
  | [] => some true
  | i :: r => match lpart P e xs (i * c), lpart P e ys (i * c) with
    | some a, some b => match eq e a b with
      | some true => leqA eq P e c xs ys r
      | some false => some false
      | none => none
    | _, _ => none

def leq (P : Program) : Nat → TypeId → Value → Value → Option Bool
  | 0, _, _, _ => none
  | d + 1, t, x, y =>
    match P.underlying t, x, y with
    | some .bool, .bool a, .bool b => some (a == b)
    | some (.int _), .int k a, .int k' b => if k = k' then some (a == b) else none
    | some (.int _), x, y => symEq x y
    | some .string, .string a, .string b => some (a.data.toList == b.data.toList)
    | some (.pointer _), .pointer none, .pointer none => some true
    | some (.pointer _), .pointer none, .pointer (some _) => some false
    | some (.pointer _), .pointer (some _), .pointer none => some false
    | some (.struct fs), .agg xs, .agg ys => bif P.stoodInHeld t then none else leqF (leq P d) P xs.toList ys.toList fs.toList
    | some (.array n e), .agg xs, .agg ys => match P.info? e with
      | some i => leqA (leq P d) P e i.size xs.toList ys.toList (List.range n)
      | none => none
    | some (.slice _), .slice none _ _, .slice none _ _ => some true
    | some (.slice _), .slice none _ _, .slice (some _) _ _ => some false
    | some (.slice _), .slice (some _) _ _, .slice none _ _ => some false
    | some (.map _ _), .map none, .map none => some true
    | some (.map _ _), .map none, .map (some _) => some false
    | some (.map _ _), .map (some _), .map none => some false
    | some (.func _ _ _), .nilFunc, .nilFunc => some true
    | some (.func _ _ _), .nilFunc, .func _ _ _ => some false
    | some (.func _ _ _), .func _ _ _, .nilFunc => some false
    | some (.interface _), .nilIface, .nilIface => some true
    | some (.interface _), .nilIface, .iface _ _ => some false
    | some (.interface _), .iface _ _, .nilIface => some false
    | _, _, _ => none

def lstr (op : BinOp) (x y : ByteArray) : Option Value :=
  let a := x.data.toList
  let b := y.data.toList
  match op with
  | .add => bif Nat.ble (a.length + b.length) 1048576 then some (.string ⟨⟨a ++ b⟩⟩) else none
  | .eql => some (.bool (a == b))
  | .neq => some (.bool !(a == b))
  | .lss => some (.bool (Op.bytesLess a b))
  | _ => none

def isConst : Operand → Bool
  | .const _ => true
  | _ => false

def lguard (P : Program) (t : TypeId) (c : Bool) (x y : Value) : Bool :=
  match x, y with
  | .agg _, .agg _ => !P.eqGuardType P.depth t
  | .nilIface, .nilIface => c
  | _, _ => true

def lbin (P : Program) (op : BinOp) (t : TypeId) (c : Bool) (x y : Value) : Option Value :=
  match x, y with
  | .int k a, .int k' b => pureSem (binOp op t (.int k a) (.int k' b))
  | .string a, .string b => lstr op a b
  | x, y => bif isSym x || isSym y then slook op x y SymT.tab else match op with
    | .eql => bif lguard P t c x y then (leq P 12 t x y).map .bool else none
    | .neq => bif lguard P t c x y then (leq P 12 t x y).map fun b => .bool !b else none
    | _ => none

/-- the bytes that cells hold -/
def lbytes : List Value → Option (List UInt8)
  | [] => some []
  | .int .u8 n :: r => (lbytes r).map (UInt8.ofNat n.toNat :: ·)
  | _ :: _ => none

def lcells (g : Nat → Option LB) (b : Nat) : Option (List Value) :=
  match g b with
  | some (.cells c) => some c
  | some (.ro c) => some c
  | _ => none

/-- n cells from off on -/
def lrow (c : List Value) (off n : Nat) : Option (List Value) :=
  let vs := (c.drop off).take n
  bif Nat.beq vs.length n then some vs else none

/-- the mark of a slice of nothing whose place is not known -/
def isZ : Option Nat → Bool
  | none => false
  | some e => Nat.beq e 0

def lconv (P : Program) (g : Nat → Option LB) (src dst : TypeId) (x : Value) : Option Value :=
  match P.underlying src, P.underlying dst, x with
  | some _, some (.int k), .int _ n => some (.int k (k.wrap n))
  | some _, some (.int k), .complex a n m => clook k (.complex a n m) SymT.tab
  | some .string, some .string, .string s => some (.string s)
  | some (.slice e), some .string, .slice none _ _ =>
    match P.underlying e with
    | some (.int .u8) => some (.string ⟨⟨[]⟩⟩)
    | _ => none
  | some (.slice e), some .string, .slice (some a) len _ =>
    match P.underlying e, (bif isZ a.spot then none else lcells g a.block) with
    | some (.int .u8), some c => match lrow c a.off len with
      | some vs => (lbytes vs).map fun bs => .string ⟨⟨bs⟩⟩
      | none => none
    | _, _ => none
  | _, _, _ => none

def lfieldAddr (P : Program) (s : TypeId) (x : Value) (f : Nat) : Option Value :=
  match P.underlying s, x with
  | some (.struct fs), .pointer (some ⟨b, off, none⟩) =>
    match fs.toList[f]? with
    | some fd => match P.info? fd.type with
      | some i => bif Nat.beq i.size 0 then none else some (.pointer (some ⟨b, off + fd.offset, none⟩))
      | none => none
    | none => none
  | _, _ => none

def lfield (P : Program) (s : TypeId) (x : Value) (f : Nat) : Option Value :=
  match P.underlying s, x with
  | some (.struct fs), .agg cs =>
    match fs.toList[f]? with
    | some fd => lpart P fd.type cs.toList fd.offset
    | none => none
  | _, _ => none

/-- an index within a length -/
def linx (len : Nat) : Value → Option Nat
  | .int _ i => bif decide (0 ≤ i) && decide (i < len) then some i.toNat else none
  | _ => none

def lindexAddr (P : Program) (t : TypeId) (x i : Value) : Option Value :=
  match P.underlying t, x with
  | some (.array len e), .pointer (some ⟨b, off, none⟩) =>
    match linx len i, P.info? e with
    | some k, some ie => some (.pointer (some ⟨b, off + k * ie.size, none⟩))
    | _, _ => none
  | some (.slice e), .slice (some ⟨b, off, _⟩) len _ =>
    match linx len i, P.info? e with
    | some k, some ie => some (.pointer (some ⟨b, off + k * ie.size, none⟩))
    | _, _ => none
  | _, _ => none

def lindex (P : Program) (t : TypeId) (x i : Value) : Option Value :=
  match P.underlying t, x with
  | some (.array len e), .agg cs =>
    match linx len i, P.info? e with
    | some k, some ie => lpart P e cs.toList (k * ie.size)
    | _, _ => none
  | some .string, .string s =>
    match i with
    | .int _ n => bif decide (0 ≤ n) then (match s.data.toList[n.toNat]? with | some b => some (.int .u8 b.toNat) | none => none) else none
    | _ => none
  | _, _ => none

/-- a bound of a slice expression: at most y -/
def lbound (y : Nat) : Value → Option Nat
  | .int _ i => bif decide (0 ≤ i) && decide (i ≤ y) then some i.toNat else none
  | _ => none

/-- low and high of x[low:high], high at most 'most' -/
def lbounds (len most : Nat) (low high : Option Value) : Option (Nat × Nat) :=
  match (match high with | some v => lbound most v | none => some len) with
  | none => none
  | some h => match (match low with | some v => lbound h v | none => some 0) with
    | none => none
    | some l => some (l, h)

def spOK (size : Nat) : Option Nat → Bool
  | none => true
  | some e => Nat.beq e size && Nat.ble 1 e

/-- nothing, of a capacity that is not known -/
def isZ2 : Option Nat → Nat → Bool
  | none, _ => false
  | some _, cap => Nat.beq cap 0

def lslice (P : Program) (t : TypeId) (x : Value) (low high max : Option Value) : Option Value :=
  match P.underlying t, x, max with
  | some .string, .string s, none =>
    match lbounds s.data.toList.length s.data.toList.length low high with
    | some (l, h) => some (.string ⟨⟨(s.data.toList.drop l).take (h - l)⟩⟩)
    | none => none
  | some (.slice e), .slice none 0 0, none =>
    match lbounds 0 0 low high with
    | some (l, h) => match P.info? e with
      | some _ => some (.slice none (h - l) (0 - l))
      | none => none
    | none => none
  | some (.slice e), .slice (some ⟨b, off, sp⟩) len cap, none =>
    match lbounds len cap low high, P.info? e with
    | some (l, h), some ie =>
      bif !spOK ie.size sp then none
      else bif Nat.blt l cap then some (.slice (some ⟨b, off + l * ie.size, sp⟩) (h - l) (cap - l))
      else bif Nat.beq l 0 || sp.isNone then some (.slice (some ⟨b, off, sp⟩) (h - l) (cap - l)) else some (.slice (some ⟨b, off + l * ie.size, sp⟩) 0 0)
    | _, _ => none
  | some (.slice e), .slice (some ⟨b, off, sp⟩) _ cap, some mx =>
    match (bif isZ2 sp cap then none else lbound cap mx) with
    | some m => match high with
      | some hv => match lbound m hv, P.info? e with
        | some h, some ie => match (match low with | some v => lbound h v | none => some 0) with
          | some l => some (.slice (some ⟨b, (bif Nat.beq m l then off else off + l * ie.size), none⟩) (h - l) (m - l))
          | none => none
        | _, _ => none
      | none => none
    | none => none
  | some (.array n e), .pointer (some ⟨b, off, none⟩), none =>
    match lbounds n n low high, P.info? e with
    | some (l, h), some ie => some (.slice (some ⟨b, (bif Nat.beq n l then off else off + l * ie.size), none⟩) (h - l) (n - l))
    | _, _ => none
  | _, _, _ => none

def isKeyD : TypeDesc → Bool
  | .int _ => true
  | .string => true
  | _ => false

def isKey : Value → Bool
  | .int _ _ => true
  | .string _ => true
  | _ => false

def lkey : TypeDesc → Value → Value → Option Bool
  | .int _, .int k a, .int k' b => if k = k' then some (a == b) else none
  | .string, .string a, .string b => some (a.data.toList == b.data.toList)
  | _, _, _ => none

def lfind (kd : TypeDesc) (k : Value) : List MapEntry → Nat → Option (Option (Nat × Value))
  | [], _ => some none
  | e :: es, i =>
    match lkey kd k e.key with
    | some true => some (some (i, e.val))
    | some false => lfind kd k es (i + 1)
    | none => none

def llookup (P : Program) (g : Nat → Option LB) (t : TypeId) (x i : Value) (ok : Bool) : Option Value :=
  match P.underlying t, x with
  | some (.map kt et), .map (some r) =>
    match g r, P.underlying kt, P.info? et with
    | some (.map es _), some kd, some ie =>
      bif isKeyD kd && isKey i then
        match lfind kd i es 0, ie.zero with
        | some (some (_, v)), _ => some (bif ok then .tuple #[v, .bool true] else v)
        | some none, some z => bif Nat.beq (ub z) 0 then some (bif ok then .tuple #[z, .bool false] else z) else none
        | _, _ => none
      else none
    | _, _, _ => none
  | _, _ => none

def llen (P : Program) (g : Nat → Option LB) (t : TypeId) (x : Value) : Option Value :=
  match P.underlying t, x with
  | some .string, .string s => some (goInt s.data.toList.length)
  | some (.slice _), .slice _ n _ => some (goInt n)
  | some (.array n _), _ => some (goInt n)
  | some (.map _ _), .map none => some (goInt 0)
  | some (.map _ _), .map (some r) => match g r with
    | some (.map es _) => some (goInt es.length)
    | _ => none
  | _, _ => none

def lminmax (isMax : Bool) : Value → List Value → Option Value
  | x, [] => some x
  | .int k x, .int _ y :: r => lminmax isMax (.int k (bif isMax then (if y > x then y else x) else (if y < x then y else x))) r
  | _, _ :: _ => none

def lassert (P : Program) (x : Value) (asserted : TypeId) (ok : Bool) : Option Value :=
  match P.underlying asserted, x with
  | some (.interface _), _ => none
  | some _, .iface t v =>
    if t = asserted then some (bif ok then .tuple #[v, .bool true] else v)
    else bif ok then (match P.info? asserted with
      | some i => match i.zero with
        | some z => bif Nat.beq (ub z) 0 then some (.tuple #[z, .bool false]) else none
        | none => none
      | none => none) else none
  | _, _ => none

def lplaces (P : Program) (fs : List Field) : Option (List (Nat × Nat)) := fs.mapM fun f => (P.info? f.type).map fun i => (f.offset, i.size)

/-- cells with others laid over them from off on -/
def splice (c : List Value) (off : Nat) (vs : List Value) : List Value := c.take off ++ (vs ++ c.drop (off + vs.length))

def lfill (place : Nat → Option (Nat × Nat)) : List Value → List (Nat × Value) → Option (List Value)
  | c, [] => some c
  | c, (i, v) :: r =>
    match place i with
    | none => none
    | some (off, size) =>
      let vs := v.cells.toList
      bif Nat.beq vs.length size && Nat.ble (off + size) c.length then lfill place (splice c off vs) r else none

def lbuilt (P : Program) (t : TypeId) (parts : List (Nat × Value)) : Option (List Value) :=
  match P.info? t, P.underlying t with
  | some it, some (.array _ e) =>
    match it.zero, P.info? e with
    | some z, some ie => bif Nat.beq (ub z) 0 then lfill (fun i => some (i * ie.size, ie.size)) z.cells.toList parts else none
    | _, _ => none
  | some it, some (.struct fs) =>
    match it.zero, lplaces P fs.toList with
    | some z, some places => bif Nat.beq (ub z) 0 then lfill (places[·]?) z.cells.toList parts else none
    | _, _ => none
  | _, _ => none

/-- operations that leave the memory alone -/
def qop (P : Program) (g : Nat → Option LB) (ρ : Operand → Value) (o : Oper) : Option Value :=
  match o.op with
  | .move x => some (ρ x)
  | .assign x => some (ρ x)
  | .pick c a b => match ρ c with
    | .bool true => some (ρ a)
    | .bool false => some (ρ b)
    | _ => none
  | .build t parts => (lbuilt P t (parts.toList.map fun p => (p.1, ρ p.2))).map fun c => .agg ⟨c⟩
  | .load t a => match ρ a with
    | .pointer (some ⟨b, off, none⟩) => match lcells g b with
      | some c => lload P t c off
      | none => none
    | _ => none
  | .nilCheck x => match ρ x with
    | .pointer (some a) => some (.pointer (some a))
    | .iface t v => some (.iface t v)
    | .func (.func f) xs ys => some (.func (.func f) xs ys)
    | _ => none
  | .binOp op t x y _ => lbin P op t (isConst x || isConst y) (ρ x) (ρ y)
  | .unOp op _ x => match ρ x with
    | .int k n => pureSem (Op.unary op (.int k n))
    | .bool b => pureSem (Op.unary op (.bool b))
    | .complex a n m => ulook op (.complex a n m) SymT.tab
    | _ => none
  | .convert src dst x => lconv P g src dst (ρ x)
  | .makeInterface t x => match P.underlying t with
    | some (.interface _) => none
    | some _ => some (.iface t (ρ x))
    | none => none
  | .makeFunc fn first captured => some (.func fn ⟨first.toList.map ρ⟩ ⟨captured.toList.map ρ⟩)
  | .fieldAddr s x f => lfieldAddr P s (ρ x) f
  | .field s x f => lfield P s (ρ x) f
  | .indexAddr t x i => lindexAddr P t (ρ x) (ρ i)
  | .index t x i => lindex P t (ρ x) (ρ i)
  | .lookup t x i ok => llookup P g t (ρ x) (ρ i) ok
  | .extract x i => match ρ x with
    | .tuple vs => vs.toList[i]?
    | _ => none
  | .slice t x lo hi mx => lslice P t (ρ x) (lo.map ρ) (hi.map ρ) (mx.map ρ)
  | .sliceToArrayPointer arr x => match P.underlying arr, ρ x with
    | some (.array n _), .slice (some ⟨b, off, _⟩) len _ => bif Nat.ble n len && Nat.ble 1 len then some (.pointer (some ⟨b, off, none⟩)) else none
    | _, _ => none
  | .typeAssert x _ asserted ok => lassert P (ρ x) asserted ok
  | .call { callee := .builtin .len, args, argTypes } => match args.toList, argTypes.toList with
    | [x], [t] => llen P g t (ρ x)
    | _, _ => none
  | .call { callee := .builtin .max, args, .. } => match args.toList with
    | x :: r => lminmax true (ρ x) (r.map ρ)
    | [] => none
  | .call { callee := .builtin .min, args, .. } => match args.toList with
    | x :: r => lminmax false (ρ x) (r.map ρ)
    | [] => none
  | _ => none

/-- the zero cells of n elements -/
def lzeros (z : List Value) : Nat → List Value
  | 0 => []
  | n + 1 => z ++ lzeros z n

def lint : Value → Option Nat
  | .int _ i => bif decide (0 ≤ i) && decide (i ≤ 1048576) then some i.toNat else none
  | _ => none

/-- operations that make one block, whose number is n -/
def aop (P : Program) (ρ : Operand → Value) (o : Oper) (n : Nat) : Option (Value × LB) :=
  match o.op with
  | .alloc e => match P.info? e with
    | some i => match i.zero with
      | some z => bif Nat.beq (ub z) 0 then some (.pointer (some ⟨n, 0, none⟩), .cells z.cells.toList) else none
      | none => none
    | none => none
  | .box _ x => some (.pointer (some ⟨n, 0, none⟩), .cells (ρ x).cells.toList)
  | .buildSlice t len parts => match P.underlying t with
    | some (.slice e) => match P.info? e with
      | some ie => match ie.zero with
        | some z =>
          bif Nat.beq (ub z) 0 && Nat.ble (len * ie.size) 16777216 && Nat.beq z.cells.toList.length ie.size && Nat.ble 1 ie.size then
            (lfill (fun i => some (i * ie.size, ie.size)) (lzeros z.cells.toList len) (parts.toList.map fun p => (p.1, ρ p.2))).map fun c => (.slice (some ⟨n, 0, none⟩) len len, .cells c)
          else none
        | none => none
      | none => none
    | _ => none
  | .makeSlice t l c => match P.underlying t with
    | some (.slice e) => match P.info? e, lint (ρ l), lint (ρ c) with
      | some ie, some l, some c => match ie.zero with
        | some z =>
          bif Nat.beq (ub z) 0 && Nat.ble l c && Nat.beq z.cells.toList.length ie.size && Nat.ble 1 ie.size && Nat.ble (ie.bytes * c) 281474976710656 then
            some (.slice (some ⟨n, 0, none⟩) l c, .cells (lzeros z.cells.toList c))
          else none
        | none => none
      | _, _, _ => none
    | _ => none
  | .makeMap _ none => some (.map (some n), .map [] 0)
  | .convert src dst x => match P.underlying src, P.underlying dst, ρ x with
    | some .string, some (.slice e), .string s =>
      match P.underlying e with
      | some (.int .u8) => some (.slice (some ⟨n, 0, some 1⟩) s.data.toList.length s.data.toList.length, .ro (s.data.toList.map fun b => .int .u8 b.toNat))
      | _ => none
    | _, _, _ => none
  | _ => none

inductive LN where
  | val (v : Value)
  | enter (f : FuncId) (args : List Value)

/-- a variable's cells stored -/
noncomputable def lstore (m : LMem) (b off : Nat) (vs : List Value) : Option LMem :=
  match m.get b with
  | some (.cells c) =>
    bif Nat.ble (off + vs.length) c.length && vs.all Value.oneCell' then m.put b (ubs vs) (.cells (splice c off vs)) else none
  | _ => none

/-- the elements that append or copy takes over -/
def lelems (g : Nat → Option LB) (size : Nat) : Value → Option (Nat × List Value)
  | .slice none 0 _ => some (0, [])
  | .slice (some a) n _ => bif Nat.beq n 0 then some (0, []) else match lcells g a.block with
    | some c => (lrow c a.off (n * size)).map fun vs => (n, vs)
    | none => none
  | .string s => bif Nat.beq size 1 then some (s.data.toList.length, s.data.toList.map fun b => .int .u8 b.toNat) else none
  | _ => none

noncomputable def lappend (P : Program) (t : TypeId) (s x : Value) (m : LMem) : Option (Value × LMem) :=
  match P.underlying t with
  | some (.slice e) => match P.info? e with
    | some ie => match lelems m.get ie.size x, ie.zero with
      | some (k, vs), some z =>
        bif Nat.ble 1 ie.size && Nat.ble k 1048576 && Nat.ble ie.bytes 4096 && Nat.beq z.cells.toList.length ie.size && vs.all Value.oneCell' then
          match s with
          | .slice none 0 0 =>
            bif Nat.beq k 0 then some (.slice none 0 0, m)
            else match m.alloc (.cells vs) with
              | some m' => some (.slice (some ⟨m.next, 0, some ie.size⟩) k k, m')
              | none => none
          | .slice (some ⟨b, off, sp⟩) len cap =>
            bif isZ sp then none else bif Nat.ble (len + k) cap then
              match lstore m b (off + len * ie.size) vs with
              | some m' => some (.slice (some ⟨b, off, sp⟩) (len + k) cap, m')
              | none => none
            else bif Nat.ble (len + k) 1048576 && Nat.ble cap 1048576 then match m.get b with
              | some (.cells c) => match lrow c off (len * ie.size) with
                | some old => match m.alloc (.cells (old ++ vs)) with
                  | some m' => match sp with
                    | none => some (.slice (some ⟨m.next, 0, some ie.size⟩) (len + k) (len + k), m')
                    | some es => bif Nat.beq es ie.size then (match m'.put b 0 .dead with
                      | some m'' => some (.slice (some ⟨m.next, 0, some ie.size⟩) (len + k) (len + k), m'')
                      | none => none) else none
                  | none => none
                | none => none
              | _ => none
            else none
          | _ => none
        else none
      | _, _ => none
    | none => none
  | _ => none

noncomputable def lmapUpdate (P : Program) (t : TypeId) (x k v : Value) (m : LMem) : Option LMem :=
  match P.underlying t, x with
  | some (.map kt _), .map (some r) =>
    match m.get r, P.underlying kt with
    | some (.map es ck), some kd =>
      bif isKeyD kd && isKey k then
        match lfind kd k es 0 with
        | some (some (i, _)) => m.put r (lmax (ub k) (ub v)) (.map (es.take i ++ { key := k, val := v, born := ((es[i]?).map (·.born)).getD 0 } :: es.drop (i + 1)) ck)
        | some none => m.put r (lmax (ub k) (ub v)) (.map (es ++ [{ key := k, val := v, born := ck }]) (ck + 1))
        | none => none
      else none
    | _, _ => none
  | _, _ => none

noncomputable def ldelete (P : Program) (t : TypeId) (x k : Value) (m : LMem) : Option LMem :=
  match P.underlying t, x with
  | some (.map kt _), .map (some r) =>
    match m.get r, P.underlying kt with
    | some (.map es ck), some kd =>
      bif isKeyD kd && isKey k then
        match lfind kd k es 0 with
        | some (some (i, _)) => m.put r 0 (.map (es.take i ++ es.drop (i + 1)) ck)
        | some none => m.put r 0 (.map es ck)
        | none => none
      else none
    | _, _ => none
  | _, _ => none

noncomputable def lclear (P : Program) (t : TypeId) (x : Value) (m : LMem) : Option LMem :=
  match P.underlying t, x with
  | some (.slice e), .slice (some ⟨b, off, _⟩) n _ =>
    match P.info? e with
    | some ie => match ie.zero with
      | some z => bif Nat.beq (ub z) 0 && Nat.beq z.cells.toList.length ie.size && Nat.ble 1 ie.size && Nat.ble 1 n then lstore m b off (lzeros z.cells.toList n) else bif Nat.beq n 0 then some m else none
      | none => none
    | none => none
  | some (.slice _), .slice none _ _ => some m
  | _, _ => none

/-- the numbers of the functions without a body that are known: math/bits.Add64, Sub64, maps.clone -/
structure ExtT where
  add : Nat
  sub : Nat
  clone : Nat

def ladd (args : List Value) : Option Value :=
  match args with
  | [.int _ x, .int _ y, .int _ c] => bif Nat.ble c.toNat 1 then
      some (Extern.MathBitsCarry.pair ((x.toNat + y.toNat + c.toNat) % Extern.MathBitsCarry.m64) ((x.toNat + y.toNat + c.toNat) / Extern.MathBitsCarry.m64)) else none
  | _ => none

def lsub (args : List Value) : Option Value :=
  match args with
  | [.int _ x, .int _ y, .int _ c] => bif Nat.ble c.toNat 1 then
      some (Extern.MathBitsCarry.pair ((x.toNat + Extern.MathBitsCarry.m64 - y.toNat - c.toNat) % Extern.MathBitsCarry.m64) (if x.toNat < y.toNat + c.toNat then 1 else 0)) else none
  | _ => none

/-- a map, once more -/
noncomputable def lclone (args : List Value) (m : LMem) : Option (LN × LMem) :=
  match args with
  | [.iface t (.map (some r))] => match m.get r with
    | some (.map es ck) => (m.alloc (.map es ck)).map fun m' => (.val (.iface t (.map (some m.next))), m')
    | _ => none
  | _ => none

noncomputable def lcallF (P : Program) (X : ExtT) (f : FuncId) (args : List Value) (m : LMem) : Option (LN × LMem) :=
  bif Nat.beq f X.add then (ladd args).map fun v => (.val v, m)
  else bif Nat.beq f X.sub then (lsub args).map fun v => (.val v, m)
  else bif Nat.beq f X.clone then (match P.funcs[f]? with | some _ => lclone args m | none => none)
  else match P.funcs[f]? with
    | some fn => match fn.body with
      | some _ => some (.enter f args, m)
      | none => none
    | none => none

def isPtrD : TypeDesc → Bool
  | .pointer _ => true
  | _ => false

/-- a method called through an interface value: the type's own method, its receiver as it stands -/
noncomputable def linvoke (P : Program) (X : ExtT) (recv : Value) (name : String) (args : List Value) (m : LMem) : Option (LN × LMem) :=
  match recv with
  | .iface t v => match P.info? t, P.underlying t with
    | some i, some d => match i.methods.toList.find? (fun x => x.name == name) with
      | some me => match me.path.toList, me.func with
        | [], some (f, p) => bif isPtrD d == p then lcallF P X f (v :: args) m else none
        | _, _ => none
      | none => none
    | _, _ => none
  | _ => none

/-- effects: stores, appends, calls -/
noncomputable def eop (P : Program) (X : ExtT) (ρ : Operand → Value) (o : Oper) (m : LMem) : Option (LN × LMem) :=
  match o.op with
  | .store t a x => match ρ a, P.info? t with
    | .pointer (some ⟨b, off, none⟩), some i =>
      let vs := (ρ x).cells.toList
      bif Nat.beq vs.length i.size then (lstore m b off vs).map fun m' => (.val undef, m') else none
    | _, _ => none
  | .mapUpdate t x k v => (lmapUpdate P t (ρ x) (ρ k) (ρ v) m).map fun m' => (.val undef, m')
  | .insert t x k v => (lmapUpdate P t (ρ x) (ρ k) (ρ v) m).map fun m' => (.val undef, m')
  | .call { callee := .builtin .append, args, argTypes } => match args.toList, argTypes.toList with
    | [s, x], [t, u] => match P.underlying u with
      | some (.slice _) => (lappend P t (ρ s) (ρ x) m).map fun r => (.val r.1, r.2)
      | some .string => (lappend P t (ρ s) (ρ x) m).map fun r => (.val r.1, r.2)
      | _ => none
    | _, _ => none
  | .call { callee := .builtin .clear, args, argTypes } => match args.toList, argTypes.toList with
    | [x], [t] => (lclear P t (ρ x) m).map fun m' => (.val (.tuple #[]), m')
    | _, _ => none
  | .call { callee := .builtin .delete, args, argTypes } => match args.toList, argTypes.toList with
    | [x, k], [t, _] => (ldelete P t (ρ x) (ρ k) m).map fun m' => (.val (.tuple #[]), m')
    | _, _ => none
  | .call { callee := .value f, args, .. } => match ρ f with
    | .func (.func g) first captured => lcallF P X g (first.toList ++ args.toList.map ρ ++ captured.toList) m
    | _ => none
  | .call { callee := .invoke recv name, args, .. } => linvoke P X (ρ recv) name (args.toList.map ρ) m
  | _ => none

end Go.Eng
