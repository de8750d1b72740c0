/- The engine: the logical run of code. -/
import Derived.Test.YtopofdjgfbimnaaGreatEngB
namespace Go.Eng
variable [SymV] [SymT]

def veqL (eq : Value → Value → Bool) : List Value → List Value → Bool
  | [], [] => true
  | x :: xs, y :: ys => eq x y && veqL eq xs ys
  | _, _ => false

def aeq (a b : Addr) : Bool := Nat.beq a.block b.block && Nat.beq a.off b.off && (match a.spot, b.spot with | none, none => true | some x, some y => Nat.beq x y | _, _ => false)

/-- if it says yes, the two are equal -/
def veq : Nat → Value → Value → Bool
  | 0, _, _ => false
  | n + 1, x, y => match x, y with
    | .bool a, .bool b => a == b
    | .int j a, .int k b => decide (j = k) && decide (a = b)
    | .string a, .string b => a.data.toList == b.data.toList
    | .pointer none, .pointer none => true
    | .pointer (some a), .pointer (some b) => aeq a b
    | .slice none l c, .slice none l' c' => Nat.beq l l' && Nat.beq c c'
    | .slice (some a) l c, .slice (some b) l' c' => aeq a b && Nat.beq l l' && Nat.beq c c'
    | .map none, .map none => true
    | .map (some a), .map (some b) => Nat.beq a b
    | .complex a n m, .complex b n' m' => decide (a = b) && Nat.beq n n' && Nat.beq m m'
    | .nilFunc, .nilFunc => true
    | .nilIface, .nilIface => true
    | .iface t a, .iface u b => Nat.beq t u && veq n a b
    | .agg a, .agg b => veqL (veq n) a.toList b.toList
    | .tuple a, .tuple b => veqL (veq n) a.toList b.toList
    | .func (.func f) a b, .func (.func g) c d => Nat.beq f g && veqL (veq n) a.toList c.toList && veqL (veq n) b.toList d.toList
    | _, _ => false

def isEff : Op → Bool
  | .store .. | .mapUpdate .. | .insert .. => true
  | .call { callee := .builtin b, .. } => match b with
    | .len | .max | .min => false
    | _ => true
  | .call _ => true
  | _ => false

def isAlc : Op → Bool
  | .alloc _ | .box .. | .buildSlice .. | .makeSlice .. | .makeMap .. => true
  | _ => false

/-- does it make the bytes of a string? -/
def isConvB (P : Program) : Op → Bool
  | .convert src dst _ => match P.underlying src, P.underlying dst with
    | some .string, some (.slice _) => true
    | _, _ => false
  | _ => false

def isAlcP (P : Program) (o : Op) : Bool := isAlc o || isConvB P o

/-- does it look at the memory? -/
def looks : Op → Bool
  | .load .. | .lookup .. | .convert .. | .call _ => true
  | _ => false

def bnd (e : Edge) : Bool :=
  match e.ground with
  | .textOnly _ => false
  | .gcOnly _ => false
  | _ => true

def tb (m i : Nat) : Bool := Nat.beq (m / 2 ^ i % 2) 1

def maskOf (ms : List Nat) : List Edge → Nat → Nat
  | [], s => s
  | e :: r, s => maskOf ms r (bif bnd e then Nat.lor s (Nat.lor (2 ^ e.on) (ms.getD e.on 0)) else s)

/-- what comes ahead of each operation, as bits -/
def masks : List Oper → List Nat → List Nat
  | [], acc => acc
  | o :: r, acc => masks r (acc ++ [maskOf acc o.after.toList 0])

def bitsIn (n a b : Nat) : List Nat := (List.range n).filter fun i => tb a i && !tb b i

def ordGo (n : Nat) (ms : List Nat) : List Nat → Nat → List Nat
  | [], acc => (List.range n).filter fun i => !tb acc i
  | e :: r, acc =>
    let want := Nat.lor (ms.getD e 0) (2 ^ e)
    bitsIn n want acc ++ ordGo n ms r (Nat.lor acc want)

/-- an order of the region's operations in which all that is ahead of an effect must be ahead of it -/
def regOrd (ops : List Oper) (ms : List Nat) : List Nat :=
  ordGo ops.length ms ((List.range ops.length).filter fun i => ((ops[i]?).map fun o => isEff o.op).getD false) 0

def okOperand : Operand → Bool
  | .global _ => false
  | .const v => Nat.beq (ub v) 0
  | _ => true

def okOp (o : Oper) : Bool := o.op.operands.toList.all okOperand

/-- the temporaries that an operation looks at -/
def tmpsOf (ops : List Oper) (o : Oper) : List Nat :=
  (o.op.operands.toList.filterMap fun | .tmp t => some t | _ => none) ++
  (match o.guard with
   | some (g, _) => ((ops[g]?).bind (·.dst)).toList
   | none => [])

def namesOf (ops : List Oper) (o : Oper) : List Nat := o.dst.toList ++ tmpsOf ops o

def ordOK (ops : List Oper) (ms : List Nat) : List Nat → Nat → Bool
  | [], _ => true
  | i :: r, acc =>
    let mi := ms.getD i 0
    Nat.blt i ops.length && !tb acc i && Nat.beq (Nat.land mi acc) mi &&
    (!((ops[i]?).map fun o => isEff o.op).getD false || Nat.beq (Nat.land acc mi) acc) && ordOK ops ms r (Nat.lor acc (2 ^ i))

def tmpsOK (ops : List Oper) (ms : List Nat) : Bool :=
  (List.range ops.length).all fun j => match ops[j]? with
    | none => true
    | some oj =>
      let ns := namesOf ops oj
      (List.range ops.length).all fun i => Nat.beq i j || (match ops[i]? with
        | none => true
        | some oi => match oi.dst with
          | none => true
          | some d => !ns.contains d || tb (ms.getD j 0) i || tb (ms.getD i 0) j)

def regOK (ops : List Oper) : Bool :=
  let ms := masks ops []
  let ord := regOrd ops ms
  ops.all okOp && Nat.beq ord.length ops.length && ordOK ops ms ord 0 && (List.range ops.length).all (fun i => ord.contains i) && tmpsOK ops ms

noncomputable def LF.put (f : LF) (dst : Option Nat) (v : Value) : Option LF :=
  match dst with
  | none => some f
  | some d => match f with
    | ⟨tr, nt⟩ => bif Nat.blt d nt then some ⟨TF.set tr d v, nt⟩ else none

noncomputable def lwanted (ops : List Oper) (o : Oper) (f : LF) : Bool :=
  match o.guard with
  | none => true
  | some (j, want) => match ops[j]? with
    | none => false
    | some oj => match oj.dst with
      | none => false
      | some d => match f.get d with
        | .bool b => b == want
        | _ => false

abbrev CallT := FuncId → List Value → LMem → Option (Value × LMem)

noncomputable def doEff (P : Program) (X : ExtT) (call : CallT) (f : LF) (o : Oper) (m : LMem) : Option (Value × LMem) :=
  match eop P X f.lev o m with
  | some (.val v, m') => some (v, m')
  | some (.enter g args, m') => call g args m'
  | none => none

noncomputable def doAlc (P : Program) (f : LF) (o : Oper) (m : LMem) : Option (Value × LMem) :=
  match aop P f.lev o m.next with
  | some (v, b) => (m.alloc b).map fun m' => (v, m')
  | none => none

noncomputable def doOp (P : Program) (X : ExtT) (call : CallT) (f : LF) (o : Oper) (m : LMem) : Option (Value × LMem) :=
  bif isEff o.op then doEff P X call f o m
  else bif isAlcP P o.op then doAlc P f o m
  else (qop P m.get f.lev o).map fun v => (v, m)

/-- a region in the order of its text -/
noncomputable def runSeq (P : Program) (X : ExtT) (call : CallT) (ops : List Oper) : List Oper → LF → LMem → Option (LF × LMem)
  | [], f, m => some (f, m)
  | o :: r, f, m =>
    bif lwanted ops o f then
      match doOp P X call f o m with
      | some (v, m') => match f.put o.dst v with
        | some f' => runSeq P X call ops r f' m'
        | none => none
      | none => none
    else match f.put o.dst undef with
      | some f' => runSeq P X call ops r f' m
      | none => none

/-- the value is the same in the memories in which it may be asked for; hist: an effect and the memory ahead of it, the latest first -/
noncomputable def stable (P : Program) (f : LF) (o : Oper) (v : Value) (mj : Nat) : List (Nat × LMem) → Bool
  | [] => true
  | (e, m) :: r =>
    tb mj e || ((match qop P m.get f.lev o with
      | some u => veq 7 u v
      | none => false) && stable P f o v mj r)

/-- a region that draws its order, in the order 'ord' -/
noncomputable def runDraw (P : Program) (X : ExtT) (call : CallT) (ops : List Oper) (ms : List Nat) : List Nat → LF → LMem → LMem → List (Nat × LMem) → Option (LF × LMem)
  | [], f, m, _, _ => some (f, m)
  | i :: r, f, m, cur, hist =>
    match ops[i]? with
    | none => none
    | some o =>
      bif lwanted ops o f then
        bif isEff o.op then
          bif (tmpsOf ops o).all fun t => Nat.ble (ub (f.get t)) m.next then
            match doEff P X call f o m with
            | some (v, m') => match f.put o.dst v with
              | some f' => runDraw P X call ops ms r f' m' m' ((i, cur) :: hist)
              | none => none
            | none => none
          else none
        else bif isAlcP P o.op then
          match doAlc P f o m with
          | some (v, m') => match f.put o.dst v with
            | some f' => runDraw P X call ops ms r f' m' cur hist
            | none => none
          | none => none
        else match qop P m.get f.lev o with
          | some v => bif !looks o.op || stable P f o v (ms.getD i 0) hist then
              match f.put o.dst v with
              | some f' => runDraw P X call ops ms r f' m cur hist
              | none => none
            else none
          | none => none
      else match f.put o.dst undef with
        | some f' => runDraw P X call ops ms r f' m cur hist
        | none => none

inductive LX where
  | norm
  | exit (id : Nat)
  | ret

noncomputable def exec (P : Program) (X : ExtT) (call : CallT) : Nat → Code → LF → LMem → Option (LX × LF × LMem)
  | 0, _, _, _ => none
  | n + 1, c, f, m =>
    match c with
    | .skip => some (.norm, f, m)
    | .region _ ops draw =>
      let l := ops.toList
      bif draw then
        bif regOK l then
          let ms := masks l []
          (runDraw P X call l ms (regOrd l ms) f m m []).map fun r => (.norm, r.1, r.2)
        else none
      else bif l.all okOp then (runSeq P X call l l f m).map fun r => (.norm, r.1, r.2) else none
    | .seq a b => match exec P X call n a f m with
      | some (.norm, f', m') => exec P X call n b f' m'
      | r => r
    | .cond x a b => match x with
      | .global _ => none
      | x => match f.lev x with
        | .bool true => exec P X call n a f m
        | .bool false => exec P X call n b f m
        | _ => none
    | .block id a => match exec P X call n a f m with
      | some (.exit j, f', m') => bif Nat.beq j id then some (.norm, f', m') else some (.exit j, f', m')
      | r => r
    | .loop a => match exec P X call n a f m with
      | some (.norm, f', m') => exec P X call n (.loop a) f' m'
      | r => r
    | .exit id => some (.exit id, f, m)
    | .scope a => exec P X call n a f m
    | .label _ => some (.norm, f, m)
    | .ret => some (.ret, f, m)
    | _ => none

noncomputable def lresults (P : Program) (f : LF) (m : LMem) : List ResultVar → Option (List Value)
  | [] => some []
  | .tmp t :: r => (lresults P f m r).map (f.get t :: ·)
  | .cell a t :: r => match f.get a with
    | .pointer (some ⟨b, off, none⟩) => match lcells m.get b with
      | some c => match lload P t c off with
        | some v => (lresults P f m r).map (v :: ·)
        | none => none
      | none => none
    | _ => none

def ltuple : List Value → Value
  | [v] => v
  | vs => .tuple ⟨vs⟩

noncomputable def putArgs : List Value → Nat → TF Value → TF Value
  | [], _, t => t
  | v :: r, i, t => putArgs r (i + 1) (TF.set t i v)

noncomputable def callF (P : Program) (X : ExtT) (prim : FuncId → Option (List Value → LMem → Option (Value × LMem))) (fuel : Nat) : Nat → CallT
  | 0, _, _, _ => none
  | n + 1, g, args, m =>
    match prim g with
    | some p => p args m
    | none => match P.funcs[g]? with
      | none => none
      | some fn => match fn.body with
        | none => none
        | some c =>
          bif Nat.ble args.length fn.ntmps && Nat.ble fn.ntmps 256 then
            match exec P X (callF P X prim fuel n) fuel c { tr := putArgs args 0 (TF.lf none), nt := fn.ntmps } m with
            | some (.norm, f', m') => (lresults P f' m' fn.results.toList).map fun vs => (ltuple vs, m')
            | some (.ret, f', m') => (lresults P f' m' fn.results.toList).map fun vs => (ltuple vs, m')
            | _ => none
          else none

end Go.Eng
