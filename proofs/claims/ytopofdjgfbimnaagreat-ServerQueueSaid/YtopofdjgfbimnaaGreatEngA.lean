/- The logical memory of the engine: tries, logical blocks, the relation of logical values and blocks to the model's. -/
import Derived.Test.YtopofdjgfbimnaaGreatEngZ
import Derived.Orders
import Derived.Laws.StructEq
import Derived.Laws.Tables
import Derived.Laws.Rows
import Derived.Laws.Cells
import Derived.Laws.AppendOwn
namespace Go.Eng

def pureSem {α : Type} : Sem α → Option α
  | .pure v => some v
  | _ => none

/-- what is known of numbers that are not known: the logical value '.complex _ n _' stands for the number n of a valuation -/
inductive SRule where
  | bin (op : BinOp) (x y r : Value)
  | conv (k : IntKind) (x r : Value)
  | un (op : UnOp) (x r : Value)

def isSym : Value → Bool
  | .complex _ _ _ => true
  | _ => false

def isSc : Value → Bool
  | .complex _ _ _ => true
  | .int _ _ => true
  | _ => false

def isScR : Value → Bool
  | .complex _ _ _ => true
  | .int _ _ => true
  | .bool _ => true
  | _ => false

/-- what a logical scalar stands for -/
def den (val : Nat → Value) : Value → Value
  | .complex _ n _ => val n
  | v => v

def SRule.good (val : Nat → Value) : SRule → Prop
  | .bin op x y r => isSc x = true ∧ isSc y = true ∧ isScR r = true ∧ ∀ t, pureSem (binOp op t (den val x) (den val y)) = some (den val r)
  | .conv k x r => isSc x = true ∧ isSc r = true ∧ ∃ j i, den val x = .int j i ∧ den val r = .int k (k.wrap i)
  | .un op x r => isSc x = true ∧ isScR r = true ∧ pureSem (Op.unary op (den val x)) = some (den val r)

class SymV where
  val : Nat → Value
  int : ∀ n, ∃ k i, val n = .int k i

class SymT [SymV] where
  tab : List SRule
  ok : ∀ r ∈ tab, r.good SymV.val

def sceq : Value → Value → Bool
  | .int j a, .int k b => decide (j = k) && decide (a = b)
  | .complex _ n _, .complex _ m _ => Nat.beq n m
  | _, _ => false

theorem sceq_den {val : Nat → Value} {x y : Value} (h : sceq x y = true) : den val x = den val y ∧ isSc x = true := by
  unfold sceq at h
  split at h
  · simp only [Bool.and_eq_true, decide_eq_true_eq] at h
    rw [h.1, h.2]; exact ⟨rfl, rfl⟩
  · rw [show den val (.complex _ _ _) = val _ from rfl, Nat.eq_of_beq_eq_true h]; exact ⟨rfl, rfl⟩
  · cases h

def slook (op : BinOp) (x y : Value) : List SRule → Option Value
  | [] => none
  | .bin op' x' y' r :: t => bif decide (op = op') && sceq x x' && sceq y y' then some r else slook op x y t
  | _ :: t => slook op x y t

def clook (k : IntKind) (x : Value) : List SRule → Option Value
  | [] => none
  | .conv k' x' r :: t => bif decide (k = k') && sceq x x' then some r else clook k x t
  | _ :: t => clook k x t

def ulook (op : UnOp) (x : Value) : List SRule → Option Value
  | [] => none
  | .un op' x' r :: t => bif decide (op = op') && sceq x x' then some r else ulook op x t
  | _ :: t => ulook op x t

theorem slook_spec {val : Nat → Value} {op : BinOp} {x y r : Value} : ∀ {tab : List SRule}, (∀ r ∈ tab, r.good val) → slook op x y tab = some r →
    isSc x = true ∧ isSc y = true ∧ isScR r = true ∧ ∀ t, pureSem (binOp op t (den val x) (den val y)) = some (den val r)
  | [], _, h => by cases h
  | .bin op' x' y' r' :: t, hg, h => by
    simp only [slook] at h
    cases hc : (decide (op = op') && sceq x x' && sceq y y') with
    | false => rw [hc] at h; exact slook_spec (fun r hr => hg r (List.mem_cons_of_mem _ hr)) h
    | true =>
      rw [hc] at h
      simp only [cond_true, Option.some.injEq] at h
      simp only [Bool.and_eq_true, decide_eq_true_eq] at hc
      obtain ⟨⟨rfl, hx⟩, hy⟩ := hc
      subst h
      have hx := sceq_den (val := val) hx
      have hy := sceq_den (val := val) hy
      have := hg _ (List.mem_cons_self ..)
      obtain ⟨_, _, g3, g4⟩ := this
      exact ⟨hx.2, hy.2, g3, fun t => by rw [hx.1, hy.1]; exact g4 t⟩
  | .conv _ _ _ :: t, hg, h => slook_spec (tab := t) (fun r hr => hg r (List.mem_cons_of_mem _ hr)) (by simpa only [slook] using h)
  | .un _ _ _ :: t, hg, h => slook_spec (tab := t) (fun r hr => hg r (List.mem_cons_of_mem _ hr)) (by simpa only [slook] using h)

theorem clook_spec {val : Nat → Value} {k : IntKind} {x r : Value} : ∀ {tab : List SRule}, (∀ r ∈ tab, r.good val) → clook k x tab = some r →
    isSc x = true ∧ isSc r = true ∧ ∃ j i, den val x = .int j i ∧ den val r = .int k (k.wrap i)
  | [], _, h => by cases h
  | .conv k' x' r' :: t, hg, h => by
    simp only [clook] at h
    cases hc : (decide (k = k') && sceq x x') with
    | false => rw [hc] at h; exact clook_spec (fun r hr => hg r (List.mem_cons_of_mem _ hr)) h
    | true =>
      rw [hc] at h
      simp only [cond_true, Option.some.injEq] at h
      simp only [Bool.and_eq_true, decide_eq_true_eq] at hc
      obtain ⟨rfl, hx⟩ := hc
      subst h
      have hx := sceq_den (val := val) hx
      obtain ⟨_, g2, g3⟩ := hg _ (List.mem_cons_self ..)
      exact ⟨hx.2, g2, by rw [hx.1]; exact g3⟩
  | .bin _ _ _ _ :: t, hg, h => clook_spec (tab := t) (fun r hr => hg r (List.mem_cons_of_mem _ hr)) (by simpa only [clook] using h)
  | .un _ _ _ :: t, hg, h => clook_spec (tab := t) (fun r hr => hg r (List.mem_cons_of_mem _ hr)) (by simpa only [clook] using h)

theorem ulook_spec {val : Nat → Value} {op : UnOp} {x r : Value} : ∀ {tab : List SRule}, (∀ r ∈ tab, r.good val) → ulook op x tab = some r →
    isSc x = true ∧ isScR r = true ∧ pureSem (Op.unary op (den val x)) = some (den val r)
  | [], _, h => by cases h
  | .un op' x' r' :: t, hg, h => by
    simp only [ulook] at h
    cases hc : (decide (op = op') && sceq x x') with
    | false => rw [hc] at h; exact ulook_spec (fun r hr => hg r (List.mem_cons_of_mem _ hr)) h
    | true =>
      rw [hc] at h
      simp only [cond_true, Option.some.injEq] at h
      simp only [Bool.and_eq_true, decide_eq_true_eq] at hc
      obtain ⟨rfl, hx⟩ := hc
      subst h
      have hx := sceq_den (val := val) hx
      obtain ⟨_, g2, g3⟩ := hg _ (List.mem_cons_self ..)
      exact ⟨hx.2, g2, by rw [hx.1]; exact g3⟩
  | .bin _ _ _ _ :: t, hg, h => ulook_spec (tab := t) (fun r hr => hg r (List.mem_cons_of_mem _ hr)) (by simpa only [ulook] using h)
  | .conv _ _ _ :: t, hg, h => ulook_spec (tab := t) (fun r hr => hg r (List.mem_cons_of_mem _ hr)) (by simpa only [ulook] using h)

/-- a block of the logical memory -/
inductive LB where
  | cells (c : List Value)
  | ro (c : List Value)
  | map (es : List MapEntry) (clock : Nat)
  | dead

structure LMem where
  tr : TM LB
  next : Nat

noncomputable def LMem.get (m : LMem) (id : Nat) : Option LB := LMem.rec (motive := fun _ => Option LB) (fun tr next => Bool.rec none (TM.get tr id) (Nat.blt id next)) m

def lmax (a b : Nat) : Nat := bif Nat.ble a b then b else a

theorem le_lmax_left (a b : Nat) : a ≤ lmax a b := by
  unfold lmax; cases h : Nat.ble a b <;> simp
  exact Nat.le_of_ble_eq_true h
theorem le_lmax_right (a b : Nat) : b ≤ lmax a b := by
  unfold lmax; cases h : Nat.ble a b <;> simp
  have : ¬ a ≤ b := fun h' => by rw [Nat.ble_eq_true_of_le h'] at h; cases h
  omega

def ubL (f : Value → Nat) : List Value → Nat
  | [] => 0
  | v :: r => lmax (f v) (ubL f r)

/-- above every block's number in a value (as far as its fuel goes) -/
def ubF : Nat → Value → Nat
  | 0, _ => 1152921504606846976
  | n + 1, v => match v with
    | .pointer (some a) => a.block + 1
    | .slice (some a) _ _ => a.block + 1
    | .map (some r) => r + 1
    | .chan (some r) => r + 1
    | .func _ xs ys => lmax (ubL (ubF n) xs.toList) (ubL (ubF n) ys.toList)
    | .iface _ x => ubF n x
    | .agg xs => ubL (ubF n) xs.toList
    | .tuple xs => ubL (ubF n) xs.toList
    | .complex _ _ _ => 1
    | _ => 0

def ub (v : Value) : Nat := ubF 7 v
def ubs (vs : List Value) : Nat := ubL (ubF 7) vs
def ubE : List MapEntry → Nat
  | [] => 0
  | e :: r => lmax (lmax (ub e.key) (ub e.val)) (ubE r)
def ubB : LB → Nat
  | .cells c => ubs c
  | .ro c => ubs c
  | .map es _ => ubE es
  | .dead => 0

theorem ubL_le {f : Value → Nat} {vs : List Value} {n : Nat} (h : ubL f vs ≤ n) : ∀ v ∈ vs, f v ≤ n := by
  induction vs with
  | nil => simp
  | cons x r ih =>
    intro v hv
    simp only [ubL] at h
    have h1 := le_lmax_left (f x) (ubL f r)
    have h2 := le_lmax_right (f x) (ubL f r)
    rcases List.mem_cons.1 hv with rfl | hv
    · omega
    · exact ih (by omega) v hv

theorem ubL_of {f : Value → Nat} {vs : List Value} {n : Nat} (h : ∀ v ∈ vs, f v ≤ n) : ubL f vs ≤ n := by
  induction vs with
  | nil => simp [ubL]
  | cons x r ih =>
    have h1 := h x (by simp)
    have h2 := ih fun v hv => h v (by simp [hv])
    simp only [ubL, lmax]
    cases Nat.ble (f x) (ubL f r) <;> simpa

/-- a memory in which no block names a block that is not there -/
structure WF (m : LMem) : Prop where
  room : m.next ≤ 16384
  closed : ∀ id b, m.get id = some b → ubB b ≤ m.next

theorem blt_true {a b : Nat} (h : a < b) : Nat.blt a b = true := Nat.ble_eq_true_of_le h
theorem blt_lt {a b : Nat} (h : Nat.blt a b = true) : a < b := Nat.le_of_ble_eq_true h
theorem blt_false {a b : Nat} (h : b ≤ a) : Nat.blt a b = false := by
  cases hb : Nat.blt a b
  · rfl
  · have := blt_lt hb; omega

theorem LMem.get_none {m : LMem} {id : Nat} (h : m.next ≤ id) : m.get id = none := by
  obtain ⟨tr, next⟩ := m
  show Bool.rec (motive := fun _ => Option LB) none (TM.get tr id) (Nat.blt id next) = none
  rw [blt_false h]

theorem LMem.get_tr {m : LMem} {id : Nat} (h : id < m.next) : m.get id = TM.get m.tr id := by
  obtain ⟨tr, next⟩ := m
  show Bool.rec (motive := fun _ => Option LB) none (TM.get tr id) (Nat.blt id next) = TM.get tr id
  rw [blt_true h]

theorem LMem.get_lt {m : LMem} {id : Nat} {b : LB} (h : m.get id = some b) : id < m.next := by
  rcases Nat.lt_or_ge id m.next with h' | h'
  · exact h'
  · rw [LMem.get_none h'] at h; cases h

/-- a new block: its number is 'm.next' -/
noncomputable def LMem.alloc (m : LMem) (b : LB) : Option LMem :=
  match m with
  | ⟨tr, next⟩ => bif Nat.blt next 16384 && Nat.ble (ubB b) next then some ⟨TM.set tr next b, Nat.succ next⟩ else none

/-- a block replaced; 'u' is above the numbers in what is new in it -/
noncomputable def LMem.put (m : LMem) (id : Nat) (u : Nat) (b : LB) : Option LMem :=
  match m with
  | ⟨tr, next⟩ => bif Nat.blt id next && Nat.ble u next then some ⟨TM.set tr id b, next⟩ else none


theorem LMem.alloc_spec {m m' : LMem} {b : LB} (hw : WF m) (h : m.alloc b = some m') :
    m'.next = m.next + 1 ∧ m'.get m.next = some b ∧ (∀ id, id ≠ m.next → m'.get id = m.get id) ∧ WF m' := by
  have h : (bif Nat.blt m.next 16384 && Nat.ble (ubB b) m.next then some { tr := TM.set m.tr m.next b, next := m.next + 1 } else none) = some m' := by cases m; exact h
  cases hc : (Nat.blt m.next 16384 && Nat.ble (ubB b) m.next) with
  | false => rw [hc] at h; cases h
  | true =>
    rw [hc] at h
    simp only [cond_true, Option.some.injEq] at h
    rw [Bool.and_eq_true] at hc
    have h1 := blt_lt hc.1
    have h2 := Nat.le_of_ble_eq_true hc.2
    subst h
    have hg : ∀ id, LMem.get { tr := TM.set m.tr m.next b, next := m.next + 1 } id = if id = m.next then some b else m.get id := by
      intro id
      by_cases hid : id < m.next + 1
      · rw [LMem.get_tr (by exact hid), TM.get_set]
        by_cases he : id = m.next
        · subst he; simp
        · have hlt : id < m.next := by omega
          rw [if_neg he, if_neg (by omega), LMem.get_tr hlt]
      · rw [LMem.get_none (by show m.next + 1 ≤ id; omega), if_neg (by omega), LMem.get_none (by omega)]
    refine ⟨rfl, by rw [hg]; simp, fun id hid => by rw [hg, if_neg hid], ⟨by show m.next + 1 ≤ 16384; omega, fun id b' hb' => ?_⟩⟩
    rw [hg] at hb'
    by_cases he : id = m.next
    · rw [if_pos he] at hb'; cases hb'; show ubB b ≤ m.next + 1; omega
    · rw [if_neg he] at hb'; have := hw.closed id b' hb'; show ubB b' ≤ m.next + 1; omega

theorem LMem.put_spec {m m' : LMem} {id u : Nat} {b : LB} (hw : WF m) (hu : u ≤ m.next → ubB b ≤ m.next) (h : m.put id u b = some m') :
    m'.next = m.next ∧ id < m.next ∧ m'.get id = some b ∧ (∀ j, j ≠ id → m'.get j = m.get j) ∧ WF m' := by
  have h : (bif Nat.blt id m.next && Nat.ble u m.next then some { m with tr := TM.set m.tr id b } else none) = some m' := by cases m; exact h
  cases hc : (Nat.blt id m.next && Nat.ble u m.next) with
  | false => rw [hc] at h; cases h
  | true =>
    rw [hc] at h
    simp only [cond_true, Option.some.injEq] at h
    rw [Bool.and_eq_true] at hc
    have h1 := blt_lt hc.1
    have h2 := hu (Nat.le_of_ble_eq_true hc.2)
    have hr := hw.room
    subst h
    have hg : ∀ j, LMem.get { m with tr := TM.set m.tr id b } j = if j = id then some b else m.get j := by
      intro j
      by_cases hj : j < m.next
      · rw [LMem.get_tr (by exact hj), TM.get_set]
        by_cases he : j = id
        · subst he; simp
        · rw [if_neg he, if_neg (by omega), LMem.get_tr hj]
      · rw [LMem.get_none (by show m.next ≤ j; omega), if_neg (by omega), LMem.get_none (by omega)]
    refine ⟨rfl, h1, by rw [hg]; simp, fun j hj => by rw [hg, if_neg hj], ⟨hw.room, fun j b' hb' => ?_⟩⟩
    rw [hg] at hb'
    by_cases he : j = id
    · rw [if_pos he] at hb'; cases hb'; exact h2
    · rw [if_neg he] at hb'; exact hw.closed j b' hb'

/-- where a logical block lies: the model's block, how far in, and how many cells that block has -/
structure Loc where
  b : Nat
  sh : Nat
  sz : Nat

/-- 'none': not there; 'some none': dead -/
abbrev Phi := Nat → Option (Option Loc)

variable [SymV]

mutual
inductive VR (φ : Phi) : Value → Value → Prop where
  | bool (b : Bool) : VR φ (.bool b) (.bool b)
  | int (k : IntKind) (n : Int) : VR φ (.int k n) (.int k n)
  | string (s : ByteArray) : VR φ (.string s) (.string s)
  | float (k : FloatKind) (n : Nat) : VR φ (.float k n) (.float k n)
  | sym (k : FloatKind) (n m : Nat) (v : Value) : v = SymV.val n → VR φ (.complex k n m) v
  | cnil : VR φ (.chan none) (.chan none)
  | pnil : VR φ (.pointer none) (.pointer none)
  | ptr (b off : Nat) (l : Loc) : φ b = some (some l) → VR φ (.pointer (some ⟨b, off, none⟩)) (.pointer (some ⟨l.b, l.sh + off, none⟩))
  | pdead (b off : Nat) (sp : Option Nat) (a : Addr) : φ b = some none → VR φ (.pointer (some ⟨b, off, sp⟩)) (.pointer (some a))
  | snil (n c : Nat) : VR φ (.slice none n c) (.slice none n c)
  | slice (b off : Nat) (sp : Option Nat) (len cap cap' : Nat) (l : Loc) : φ b = some (some l) → len ≤ cap → cap ≤ cap' → (sp = none → cap' = cap) →
      (∀ e, sp = some e → l.sh + off + cap' * e ≤ l.sz) → VR φ (.slice (some ⟨b, off, sp⟩) len cap) (.slice (some ⟨l.b, l.sh + off, none⟩) len cap')
  | sdead (b off : Nat) (sp : Option Nat) (len cap cap' : Nat) (a : Addr) : φ b = some none → len ≤ cap → cap ≤ cap' → (sp = none → cap' = cap) → VR φ (.slice (some ⟨b, off, sp⟩) len cap) (.slice (some a) len cap')
  | szero (b off e o : Nat) (l : Loc) : φ b = some (some l) → VR φ (.slice (some ⟨b, off, some e⟩) 0 0) (.slice (some ⟨l.b, o, none⟩) 0 0)
  | mnil : VR φ (.map none) (.map none)
  | map (r : Nat) (l : Loc) : φ r = some (some l) → VR φ (.map (some r)) (.map (some l.b))
  | mdead (r r' : Nat) : φ r = some none → VR φ (.map (some r)) (.map (some r'))
  | func (fn : Fn) (xs us ys vs : Array Value) : VRL φ xs.toList ys.toList → VRL φ us.toList vs.toList → VR φ (.func fn xs us) (.func fn ys vs)
  | nilFunc : VR φ .nilFunc .nilFunc
  | iface (t : TypeId) (x y : Value) : VR φ x y → VR φ (.iface t x) (.iface t y)
  | nilIface : VR φ .nilIface .nilIface
  | agg (xs ys : Array Value) : VRL φ xs.toList ys.toList → VR φ (.agg xs) (.agg ys)
  | tuple (xs ys : Array Value) : VRL φ xs.toList ys.toList → VR φ (.tuple xs) (.tuple ys)
inductive VRL (φ : Phi) : List Value → List Value → Prop where
  | nil : VRL φ [] []
  | cons (x y : Value) (xs ys : List Value) : VR φ x y → VRL φ xs ys → VRL φ (x :: xs) (y :: ys)
end

/-- what was there is there in the same place, or is dead -/
def Ext (φ φ' : Phi) : Prop := ∀ id, φ id ≠ none → φ' id = φ id ∨ φ' id = some none

theorem Ext.refl (φ : Phi) : Ext φ φ := by
  have _s := SymV.val
  exact fun _ _ => .inl rfl
theorem Ext.trans {φ φ' φ'' : Phi} (h : Ext φ φ') (h' : Ext φ' φ'') : Ext φ φ'' := by
  have _s := SymV.val
  intro id hid
  rcases h id hid with h1 | h1
  · rcases h' id (by rw [h1]; exact hid) with h2 | h2
    · exact .inl (h2.trans h1)
    · exact .inr h2
  · rcases h' id (by rw [h1]; simp) with h2 | h2
    · exact .inr (h2.trans h1)
    · exact .inr h2

theorem Ext.at {φ φ' : Phi} (h : Ext φ φ') {id : Nat} {l : Loc} (hl : φ id = some (some l)) : φ' id = some (some l) ∨ φ' id = some none := by
  have _s := SymV.val
  rcases h id (by rw [hl]; simp) with h1 | h1
  · exact .inl (h1.trans hl)
  · exact .inr h1
theorem Ext.dead {φ φ' : Phi} (h : Ext φ φ') {id : Nat} (hl : φ id = some none) : φ' id = some none := by
  have _s := SymV.val
  rcases h id (by rw [hl]; simp) with h1 | h1
  · exact h1.trans hl
  · exact h1

mutual
theorem VR.mono {φ φ' : Phi} (h : Ext φ φ') : ∀ {x y : Value}, VR φ x y → VR φ' x y
  | _, _, .bool b => .bool b
  | _, _, .int k n => .int k n
  | _, _, .string s => .string s
  | _, _, .float k n => .float k n
  | _, _, .sym k n m v hv => .sym k n m v hv
  | _, _, .cnil => .cnil
  | _, _, .pnil => .pnil
  | _, _, .ptr b off l hl => by
    rcases h.at hl with h1 | h1
    · exact .ptr b off l h1
    · exact .pdead b off _ _ h1
  | _, _, .pdead b off sp a hl => .pdead b off sp a (h.dead hl)
  | _, _, .snil n c => .snil n c
  | _, _, .slice b off sp len cap cap' l hl h1 h2 h3 h4 => by
    rcases h.at hl with h5 | h5
    · exact .slice b off sp len cap cap' l h5 h1 h2 h3 h4
    · exact .sdead b off sp len cap cap' _ h5 h1 h2 h3
  | _, _, .sdead b off sp len cap cap' a hl h1 h2 h3 => .sdead b off sp len cap cap' a (h.dead hl) h1 h2 h3
  | _, _, .szero b off e o l hl => by
    rcases h.at hl with h1 | h1
    · exact .szero b off e o l h1
    · exact .sdead b off _ 0 0 0 _ h1 (Nat.le_refl _) (Nat.le_refl _) (fun _ => rfl)
  | _, _, .mnil => .mnil
  | _, _, .map r l hl => by
    rcases h.at hl with h1 | h1
    · exact .map r l h1
    · exact .mdead r _ h1
  | _, _, .mdead r r' hl => .mdead r r' (h.dead hl)
  | _, _, .func fn xs us ys vs h1 h2 => .func fn xs us ys vs (VRL.mono h h1) (VRL.mono h h2)
  | _, _, .nilFunc => .nilFunc
  | _, _, .iface t x y h1 => .iface t x y (VR.mono h h1)
  | _, _, .nilIface => .nilIface
  | _, _, .agg xs ys h1 => .agg xs ys (VRL.mono h h1)
  | _, _, .tuple xs ys h1 => .tuple xs ys (VRL.mono h h1)
theorem VRL.mono {φ φ' : Phi} (h : Ext φ φ') : ∀ {x y : List Value}, VRL φ x y → VRL φ' x y
  | _, _, .nil => .nil
  | _, _, .cons x y xs ys h1 h2 => .cons x y xs ys (VR.mono h h1) (VRL.mono h h2)
end

/-- the blocks below n alone -/
def cut (φ : Phi) (n : Nat) : Phi := fun id => if id < n then φ id else none

theorem cut_ext (φ : Phi) (n : Nat) : Ext (cut φ n) φ := by
  have _s := SymV.val
  intro id h
  unfold cut at *
  by_cases hid : id < n
  · rw [if_pos hid]; exact .inl rfl
  · rw [if_neg hid] at h; exact absurd rfl h

theorem cut_at {φ : Phi} {n id : Nat} (h : id < n) : cut φ n id = φ id := by
  have _s := SymV.val
  unfold cut; rw [if_pos h]
theorem cut_none {φ : Phi} {n id : Nat} (h : n ≤ id) : cut φ n id = none := by
  have _s := SymV.val
  unfold cut; rw [if_neg (by omega)]

mutual
theorem VR.cut {φ : Phi} {N : Nat} (hN : N < 1152921504606846976) : ∀ {x y : Value} (k : Nat), VR φ x y → ubF k x ≤ N → VR (cut φ N) x y
  | _, _, 0, _, h => by simp [ubF] at h; omega
  | _, _, _ + 1, .bool b, _ => .bool b
  | _, _, _ + 1, .int k n, _ => .int k n
  | _, _, _ + 1, .string s, _ => .string s
  | _, _, _ + 1, .float k n, _ => .float k n
  | _, _, _ + 1, .sym k n m v hv, _ => .sym k n m v hv
  | _, _, _ + 1, .cnil, _ => .cnil
  | _, _, _ + 1, .pnil, _ => .pnil
  | _, _, _ + 1, .ptr b off l hl, h => .ptr b off l (by rw [cut_at (by simp [ubF] at h; omega)]; exact hl)
  | _, _, _ + 1, .pdead b off sp a hl, h => .pdead b off sp a (by rw [cut_at (by simp [ubF] at h; omega)]; exact hl)
  | _, _, _ + 1, .snil n c, _ => .snil n c
  | _, _, _ + 1, .slice b off sp len cap cap' l hl h1 h2 h3 h4, h => .slice b off sp len cap cap' l (by rw [cut_at (by simp [ubF] at h; omega)]; exact hl) h1 h2 h3 h4
  | _, _, _ + 1, .sdead b off sp len cap cap' a hl h1 h2 h3, h => .sdead b off sp len cap cap' a (by rw [cut_at (by simp [ubF] at h; omega)]; exact hl) h1 h2 h3
  | _, _, _ + 1, .szero b off e o l hl, h => .szero b off e o l (by rw [cut_at (by simp [ubF] at h; omega)]; exact hl)
  | _, _, _ + 1, .mnil, _ => .mnil
  | _, _, _ + 1, .map r l hl, h => .map r l (by rw [cut_at (by simp [ubF] at h; omega)]; exact hl)
  | _, _, _ + 1, .mdead r r' hl, h => .mdead r r' (by rw [cut_at (by simp [ubF] at h; omega)]; exact hl)
  | _, _, k + 1, .func fn xs us ys vs h1 h2, h => .func fn xs us ys vs
      (VRL.cut hN k h1 (Nat.le_trans (le_lmax_left _ _) h)) (VRL.cut hN k h2 (Nat.le_trans (le_lmax_right _ _) h))
  | _, _, _ + 1, .nilFunc, _ => .nilFunc
  | _, _, k + 1, .iface t x y h1, h => .iface t x y (VR.cut hN k h1 h)
  | _, _, _ + 1, .nilIface, _ => .nilIface
  | _, _, k + 1, .agg xs ys h1, h => .agg xs ys (VRL.cut hN k h1 h)
  | _, _, k + 1, .tuple xs ys h1, h => .tuple xs ys (VRL.cut hN k h1 h)
theorem VRL.cut {φ : Phi} {N : Nat} (hN : N < 1152921504606846976) : ∀ {x y : List Value} (k : Nat), VRL φ x y → ubL (ubF k) x ≤ N → VRL (cut φ N) x y
  | _, _, _, .nil, _ => .nil
  | _, _, k, .cons x y xs ys h1 h2, h => .cons x y xs ys (VR.cut hN k h1 (Nat.le_trans (le_lmax_left _ _) h)) (VRL.cut hN k h2 (Nat.le_trans (le_lmax_right _ _) h))
end

theorem VRL.length {φ : Phi} : ∀ {xs ys : List Value}, VRL φ xs ys → xs.length = ys.length
  | _, _, .nil => rfl
  | _, _, .cons _ _ _ _ _ h => by simp [VRL.length h]

theorem VRL.get {φ : Phi} : ∀ {xs ys : List Value}, VRL φ xs ys → ∀ {i : Nat} {x : Value}, xs[i]? = some x → ∃ y, ys[i]? = some y ∧ VR φ x y
  | _, _, .nil, i, x, h => by simp at h
  | _, _, .cons a b _ _ h1 h2, 0, x, h => by simp at h; subst h; exact ⟨b, by simp, h1⟩
  | _, _, .cons a b _ _ h1 h2, i + 1, x, h => by
    have := VRL.get h2 (i := i) (x := x) (by simpa using h)
    simpa using this

theorem VRL.of_get {φ : Phi} : ∀ {xs ys : List Value}, xs.length = ys.length → (∀ (i : Nat) (x : Value), xs[i]? = some x → ∃ y, ys[i]? = some y ∧ VR φ x y) → VRL φ xs ys
  | [], [], _, _ => .nil
  | [], _ :: _, h, _ => by simp at h
  | _ :: _, [], h, _ => by simp at h
  | a :: xs, b :: ys, h, hg => by
    refine .cons a b xs ys ?_ (VRL.of_get (by simpa using h) fun i x hx => by simpa using hg (i + 1) x (by simpa using hx))
    obtain ⟨y, hy, hv⟩ := hg 0 a (by simp)
    simp at hy; subst hy; exact hv

theorem VRL.append {φ : Phi} : ∀ {xs ys us vs : List Value}, VRL φ xs ys → VRL φ us vs → VRL φ (xs ++ us) (ys ++ vs)
  | _, _, _, _, .nil, h => h
  | _, _, _, _, .cons a b _ _ h1 h2, h => .cons a b _ _ h1 (VRL.append h2 h)

theorem VRL.take {φ : Phi} : ∀ {xs ys : List Value} (n : Nat), VRL φ xs ys → VRL φ (xs.take n) (ys.take n)
  | _, _, 0, _ => by simp; exact .nil
  | _, _, _ + 1, .nil => by simp; exact .nil
  | _, _, n + 1, .cons a b _ _ h1 h2 => .cons a b _ _ h1 (VRL.take n h2)

theorem VRL.drop {φ : Phi} : ∀ {xs ys : List Value} (n : Nat), VRL φ xs ys → VRL φ (xs.drop n) (ys.drop n)
  | _, _, 0, h => h
  | _, _, _ + 1, .nil => by simp; exact .nil
  | _, _, n + 1, .cons a b _ _ h1 h2 => VRL.drop n h2

theorem VRL.mem {φ : Phi} : ∀ {xs ys : List Value}, VRL φ xs ys → ∀ y ∈ ys, ∃ x ∈ xs, VR φ x y
  | _, _, .nil, y, h => by simp at h
  | _, _, .cons a b _ _ h1 h2, y, h => by
    rcases List.mem_cons.1 h with rfl | h
    · exact ⟨a, by simp, h1⟩
    · obtain ⟨x, hx, hv⟩ := VRL.mem h2 y h
      exact ⟨x, by simp [hx], hv⟩

theorem VRL.refl_of {φ : Phi} {xs : List Value} (h : ∀ x ∈ xs, VR φ x x) : VRL φ xs xs := by
  induction xs with
  | nil => exact .nil
  | cons a r ih => exact .cons a a r r (h a (by simp)) (ih fun x hx => h x (by simp [hx]))

theorem VR.refl {φ : Phi} : ∀ (k : Nat) (v : Value), ubF k v = 0 → VR φ v v := by
  intro k
  induction k with
  | zero => intro v h; simp [ubF] at h
  | succ k ih =>
    intro v h
    have hl : ∀ xs : List Value, ubL (ubF k) xs = 0 → VRL φ xs xs := fun xs hx => VRL.refl_of fun x hm => ih x (by have := ubL_le (Nat.le_of_eq hx) x hm; omega)
    cases v with
    | bool b => exact .bool b
    | int k n => exact .int k n
    | float k n => exact .float k n
    | complex k n m => simp [ubF] at h
    | string s => exact .string s
    | pointer a => cases a with
      | none => exact .pnil
      | some a => simp [ubF] at h
    | slice a n c => cases a with
      | none => exact .snil n c
      | some a => simp [ubF] at h
    | map r => cases r with
      | none => exact .mnil
      | some a => simp [ubF] at h
    | chan r => cases r with
      | none => exact .cnil
      | some a => simp [ubF] at h
    | func fn xs ys =>
      simp only [ubF] at h
      have h1 := le_lmax_left (ubL (ubF k) xs.toList) (ubL (ubF k) ys.toList)
      have h2 := le_lmax_right (ubL (ubF k) xs.toList) (ubL (ubF k) ys.toList)
      exact .func fn xs ys xs ys (hl _ (by omega)) (hl _ (by omega))
    | nilFunc => exact .nilFunc
    | iface t x => exact .iface t x x (ih x h)
    | nilIface => exact .nilIface
    | agg xs => exact .agg xs xs (hl _ h)
    | tuple xs => exact .tuple xs xs (hl _ h)

theorem VR.undef {φ : Phi} : VR φ undef undef := .tuple #[] #[] .nil

theorem VR.den {φ : Phi} {x y : Value} (hs : isSc x = true) (h : VR φ x y) : y = den SymV.val x := by
  cases h <;> first | rfl | (simp [isSc] at hs; done) | assumption

theorem VR.of_den {φ : Phi} {x : Value} (hs : isScR x = true) : VR φ x (Eng.den SymV.val x) := by
  cases x <;> first | exact .bool _ | exact .int _ _ | exact .sym _ _ _ _ rfl | (simp [isScR] at hs; done)

theorem VR.oneCell {φ : Phi} {x y : Value} (h : VR φ x y) : y.oneCell' = x.oneCell' := by
  cases h with
  | sym k n m v hv => obtain ⟨j, i, hi⟩ := SymV.int n; subst hv; rw [hi]; rfl
  | _ => rfl

theorem VR.cells {φ : Phi} {x y : Value} (h : VR φ x y) : VRL φ x.cells.toList y.cells.toList := by
  cases h with
  | agg xs ys h1 => exact h1
  | sym k n m v hv => obtain ⟨j, i, hi⟩ := SymV.int n; rw [hv, hi]; exact .cons _ _ [] [] (.sym k n m _ hi.symm) .nil
  | _ => exact .cons _ _ [] [] (by first | exact .bool _ | exact .int _ _ | exact .string _ | exact .float _ _ | exact .cnil | exact .pnil | (apply VR.ptr; assumption) | (apply VR.pdead; assumption) | exact .snil _ _ | (apply VR.slice <;> assumption) | (apply VR.sdead <;> assumption) | (apply VR.szero; assumption) | exact .mnil | (apply VR.map; assumption) | (apply VR.mdead; assumption) | (apply VR.func <;> assumption) | exact .nilFunc | (apply VR.iface; assumption) | exact .nilIface | (apply VR.tuple; assumption)) .nil

structure ERow (φ : Phi) (es es' : List MapEntry) : Prop where
  len : es.length = es'.length
  at_ : ∀ (i : Nat) (e : MapEntry), es[i]? = some e → ∃ e' : MapEntry, es'[i]? = some e' ∧ e'.key = e.key ∧ ub e.key = 0 ∧ e'.born = e.born ∧ VR φ e.val e'.val

/-- a logical block and the model's -/
def BR (φ : Phi) (b : LB) (l : Loc) (w : World) : Prop :=
  match b with
  | .cells c => ∃ c' e, w.heap[l.b]? = some (.cells c' e (0, 0)) ∧ c'.size = l.sz ∧ l.sh + c.length ≤ l.sz ∧ ∀ (i : Nat) (v : Value), c[i]? = some v → ∃ v' : Value, c'[l.sh + i]? = some v' ∧ VR φ v v'
  | .ro c => ∃ c' e fz, w.heap[l.b]? = some (.cells c' e fz) ∧ c'.size = l.sz ∧ l.sh + c.length ≤ l.sz ∧ ∀ (i : Nat) (v : Value), c[i]? = some v → ∃ v' : Value, c'[l.sh + i]? = some v' ∧ VR φ v v'
  | .map es ck => ∃ es', w.heap[l.b]? = some (.map es' ck) ∧ ERow φ es es'.toList
  | .dead => False

/-- cells that may be read -/
def BRr (φ : Phi) (c : List Value) (l : Loc) (w : World) : Prop :=
  ∃ c' e fz, w.heap[l.b]? = some (.cells c' e fz) ∧ c'.size = l.sz ∧ l.sh + c.length ≤ l.sz ∧ ∀ (i : Nat) (v : Value), c[i]? = some v → ∃ v' : Value, c'[l.sh + i]? = some v' ∧ VR φ v v'

theorem BR.rd {φ : Phi} {c : List Value} {l : Loc} {w : World} (h : BR φ (.cells c) l w ∨ BR φ (.ro c) l w) : BRr φ c l w := by
  rcases h with ⟨c', e, h1, h2⟩ | h
  · exact ⟨c', e, _, h1, h2⟩
  · exact h

theorem BR.mono {φ φ' : Phi} (h : Ext φ φ') {b : LB} {l : Loc} {w w' : World} (hw : w'.heap[l.b]? = w.heap[l.b]?) (hb : BR φ b l w) : BR φ' b l w' := by
  cases b with
  | cells c =>
    obtain ⟨c', e, h1, h2, h3, h4⟩ := hb
    refine ⟨c', e, hw.trans h1, h2, h3, fun i v hv => ?_⟩
    obtain ⟨v', h5, h6⟩ := h4 i v hv
    exact ⟨v', h5, h6.mono h⟩
  | ro c =>
    obtain ⟨c', e, fz, h1, h2, h3, h4⟩ := hb
    refine ⟨c', e, fz, hw.trans h1, h2, h3, fun i v hv => ?_⟩
    obtain ⟨v', h5, h6⟩ := h4 i v hv
    exact ⟨v', h5, h6.mono h⟩
  | map es ck =>
    obtain ⟨es', h1, h2⟩ := hb
    refine ⟨es', hw.trans h1, h2.len, fun i e he => ?_⟩
    obtain ⟨e', h3, h4, h5, h6, h7⟩ := h2.at_ i e he
    exact ⟨e', h3, h4, h5, h6, h7.mono h⟩
  | dead => exact hb.elim

theorem BR.lt {φ : Phi} {b : LB} {l : Loc} {w : World} (hb : BR φ b l w) : l.b < w.heap.size := by
  have : ∃ o, w.heap[l.b]? = some o := by
    cases b with
    | cells c => obtain ⟨c', e, h1, _⟩ := hb; exact ⟨_, h1⟩
    | ro c => obtain ⟨c', e, fz, h1, _⟩ := hb; exact ⟨_, h1⟩
    | map es ck => obtain ⟨es', h1, _⟩ := hb; exact ⟨_, h1⟩
    | dead => exact hb.elim
  obtain ⟨o, ho⟩ := this
  exact (Array.getElem?_eq_some_iff.1 ho).1

theorem BR.cut {φ : Phi} {N : Nat} (hN : N < 1152921504606846976) {b : LB} {l : Loc} {w : World} (hb : BR φ b l w) (hu : ubB b ≤ N) : BR (cut φ N) b l w := by
  cases b with
  | cells c =>
    obtain ⟨c', e, h1, h2, h3, h4⟩ := hb
    refine ⟨c', e, h1, h2, h3, fun i v hv => ?_⟩
    obtain ⟨v', h5, h6⟩ := h4 i v hv
    exact ⟨v', h5, h6.cut hN 7 (ubL_le hu v (List.mem_of_getElem? hv))⟩
  | ro c =>
    obtain ⟨c', e, fz, h1, h2, h3, h4⟩ := hb
    refine ⟨c', e, fz, h1, h2, h3, fun i v hv => ?_⟩
    obtain ⟨v', h5, h6⟩ := h4 i v hv
    exact ⟨v', h5, h6.cut hN 7 (ubL_le hu v (List.mem_of_getElem? hv))⟩
  | map es ck =>
    obtain ⟨es', h1, h2⟩ := hb
    refine ⟨es', h1, h2.len, fun i e he => ?_⟩
    obtain ⟨e', h3, h4, h5, h6, h7⟩ := h2.at_ i e he
    refine ⟨e', h3, h4, h5, h6, h7.cut hN 7 ?_⟩
    have hue : ubE es ≤ N := hu
    clear hu h1 h2 h3 h4 h5 h6 h7
    induction es generalizing i with
    | nil => simp at he
    | cons a r ih =>
      simp only [ubE] at hue
      have g1 := le_lmax_left (lmax (ub a.key) (ub a.val)) (ubE r)
      have g2 := le_lmax_right (lmax (ub a.key) (ub a.val)) (ubE r)
      have g3 := le_lmax_right (ub a.key) (ub a.val)
      cases i with
      | zero => simp at he; subst he; show ub a.val ≤ N; omega
      | succ i => exact ih i (by simpa using he) (by omega)
  | dead => exact hb.elim

structure MR (φ : Phi) (G : Nat → Option LB) (w : World) : Prop where
  live : ∀ id l, φ id = some (some l) → ∃ b, G id = some b ∧ BR φ b l w
  dead : ∀ id, φ id = some none → G id = some .dead
  inj : ∀ id jd l l', φ id = some (some l) → φ jd = some (some l') → l.b = l'.b → id = jd

def Bd (φ : Phi) (n : Nat) : Prop := ∀ id, φ id ≠ none → id < n

structure Fr (φ : Phi) (w w' : World) : Prop where
  os : w'.os = w.os
  tape : w'.tape = w.tape
  output : w'.output = w.output
  size : w.heap.size ≤ w'.heap.size
  same : ∀ b, b < w.heap.size → (∀ id l, φ id = some (some l) → l.b ≠ b) → w'.heap[b]? = w.heap[b]?

/-- from (φ, w) to (φ', w'): what a run may do; n: how many logical blocks there were -/
structure Sim (n : Nat) (φ φ' : Phi) (w w' : World) : Prop where
  ext : Ext φ φ'
  new : ∀ id l, φ' id = some (some l) → (∃ jd l0, φ jd = some (some l0) ∧ l0.b = l.b) ∨ w.heap.size ≤ l.b
  un : ∀ id, id < n → φ id = none → φ' id = none
  fr : Fr φ w w'

theorem Fr.refl (φ : Phi) (w : World) : Fr φ w w := by
  have _s := SymV.val
  exact ⟨rfl, rfl, rfl, Nat.le_refl _, fun _ _ _ => rfl⟩

theorem Sim.refl (n : Nat) (φ : Phi) (w : World) : Sim n φ φ w w :=
  ⟨Ext.refl φ, fun id l h => .inl ⟨id, l, h, rfl⟩, fun _ _ h => h, Fr.refl φ w⟩

theorem Sim.drew (n : Nat) (φ : Phi) (w : World) : Sim n φ φ w { w with drawn := w.drawn + 1 } :=
  ⟨Ext.refl φ, fun id l h => .inl ⟨id, l, h, rfl⟩, fun _ _ h => h, ⟨rfl, rfl, rfl, Nat.le_refl _, fun _ _ _ => rfl⟩⟩

theorem Sim.trans {n n' : Nat} {φ φ' φ'' : Phi} {w w' w'' : World} (hn : n ≤ n') (h : Sim n φ φ' w w') (h' : Sim n' φ' φ'' w' w'') : Sim n φ φ'' w w'' := by
  refine ⟨h.ext.trans h'.ext, fun id l hl => ?_, fun id hid h0 => h'.un id (by omega) (h.un id hid h0),
    ⟨h'.fr.os.trans h.fr.os, h'.fr.tape.trans h.fr.tape, h'.fr.output.trans h.fr.output, Nat.le_trans h.fr.size h'.fr.size, fun b hb hne => ?_⟩⟩
  · rcases h'.new id l hl with ⟨jd, l0, h1, h2⟩ | h1
    · rcases h.new jd l0 h1 with ⟨kd, l1, h3, h4⟩ | h3
      · exact .inl ⟨kd, l1, h3, h4.trans h2⟩
      · exact .inr (by omega)
    · exact .inr (Nat.le_trans h.fr.size h1)
  · refine (h'.fr.same b (Nat.lt_of_lt_of_le hb h.fr.size) fun id l hl he => ?_).trans (h.fr.same b hb hne)
    rcases h.new id l hl with ⟨jd, l0, h1, h2⟩ | h1
    · exact hne jd l0 h1 (h2.trans he)
    · omega

theorem MR.same_heap {φ : Phi} {G : Nat → Option LB} {w w' : World} (h : MR φ G w) (hw : w'.heap = w.heap) : MR φ G w' :=
  ⟨fun id l hl => let ⟨b, h1, h2⟩ := h.live id l hl; ⟨b, h1, h2.mono (Ext.refl φ) (by rw [hw])⟩, h.dead, h.inj⟩

end Go.Eng
