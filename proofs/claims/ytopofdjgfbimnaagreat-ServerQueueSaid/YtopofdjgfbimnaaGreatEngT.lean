/- From a closed run to the call: what the engine's answer says of the program. -/
import Derived.Test.YtopofdjgfbimnaaGreatEngS
import Derived.Below
import Derived.Laws.Externs
namespace Go.Eng
open Go.RowKit
variable [SymV] [SymT]

def m0 : LMem := ⟨TM.lf none, 0⟩

theorem m0_get (id : Nat) : m0.get id = none := by
  have _s := SymT.tab
  exact LMem.get_none (Nat.zero_le _)

theorem m0_wf : WF m0 := ⟨Nat.zero_le _, fun id b h => by rw [m0_get] at h; cases h⟩

/-- a call without arguments that answers true and leaves alone what was there -/
def Trues (P : Program) (f : FuncId) : Prop :=
  ∀ w, Calls P f #[] w fun e w' => e = .returned (.bool true) ∧ Below w.heap.size w w'

noncomputable def isTrue (r : Option (Value × LMem)) : Bool :=
  match r with
  | some (v, _) => match v with
    | .bool b => b
    | _ => false
  | none => false

theorem isTrue_some {r : Option (Value × LMem)} (h : isTrue r = true) : ∃ m, r = some (.bool true, m) := by
  have _s := SymT.tab
  unfold isTrue at h
  split at h
  · split at h
    · subst h; exact ⟨_, rfl⟩
    · cases h
  · cases h

theorem trues_of {P : Program} {X : ExtT} (hP : POK P X) {prim : FuncId → Option (List Value → LMem → Option (Value × LMem))} (hp : PrimOK P prim) {fuel n : Nat} {f : FuncId}
    (h : isTrue (callFF P X prim fuel n f [] m0) = true) : Trues P f := by
  intro w
  obtain ⟨m, hm⟩ := isTrue_some h
  rw [callFF_eq] at hm
  have hs := (call_sound hP hp fuel n f [] m0 _ _ hm m0_wf).2 (fun _ => none) w []
    ⟨fun id l h => (by cases h), fun id h => (by cases h), fun id jd l l' h => (by cases h)⟩ (fun id h => absurd rfl h) .nil
  refine hs.mono fun e w' ⟨v', φ', he, hsim, hv, _, _⟩ => ?_
  cases hv
  exact ⟨he, hsim.fr.os, hsim.fr.tape, hsim.fr.output, hsim.fr.size, fun k hk => hsim.fr.same k hk fun id l h => by cases h⟩

/-- the primitive of such a call -/
def primTrue : List Value → LMem → Option (Value × LMem) := fun args m =>
  match args with
  | [] => some (.bool true, m)
  | _ => none

theorem primTrue_ok {P : Program} {g : FuncId} (hg : Trues P g) : ∀ args m v m', primTrue args m = some (v, m') → WF m → (m.next ≤ m'.next ∧ WF m') ∧
    ∀ φ w args', MR φ m.get w → Bd φ m.next → VRL φ args args' → Calls P g ⟨args'⟩ w (CallPost m m' v φ w) := by
  have _s := SymT.tab
  have _s := SymT.tab
  intro args m v m' h hw
  cases args with
  | cons a r => cases h
  | nil =>
    cases h
    refine ⟨⟨Nat.le_refl _, hw⟩, fun φ w args' hm hb ha => ?_⟩
    cases ha
    refine (hg w).mono fun e w' ⟨he, bel⟩ => ?_
    refine ⟨.bool true, φ, he, ⟨Ext.refl φ, fun id l h => .inl ⟨id, l, h, rfl⟩, fun _ _ h => h, ⟨bel.os, bel.tape, bel.output, bel.size, fun k hk _ => bel.block k hk⟩⟩, .bool true, ⟨fun id l h => ?_, hm.dead, hm.inj⟩, hb⟩
    obtain ⟨b, h1, h2⟩ := hm.live id l h
    exact ⟨b, h1, h2.mono (Ext.refl φ) (bel.block _ h2.lt)⟩

theorem noPrim (P : Program) : PrimOK P (fun _ => none) := by
  have _s := SymT.tab
  exact fun _ _ h => by cases h

/-- one primitive -/
def prim1 (g : FuncId) (p : List Value → LMem → Option (Value × LMem)) : FuncId → Option (List Value → LMem → Option (Value × LMem)) :=
  fun f => bif Nat.beq f g then some p else none

theorem prim1_ok {P : Program} {g : FuncId} (hg : Trues P g) : PrimOK P (prim1 g primTrue) := by
  intro f p h
  unfold prim1 at h
  cases hb : Nat.beq f g with
  | false => rw [hb] at h; cases h
  | true =>
    rw [hb] at h
    cases h
    have := Nat.eq_of_beq_eq_true hb
    subst this
    exact primTrue_ok hg

/- the two numbers of math/bits -/
theorem three_run {P : Program} (name : String) (k1 k2 k3 : IntKind) (x y c : Int) (w : World) (hc : c.toNat ≤ 1) :
    Sem.run P (Extern.MathBitsCarry.three name ⟨[.int k1 x, .int k2 y, .int k3 c]⟩) w = .ok (x.toNat, y.toNat, c.toNat) w := by
  have _s := SymT.tab
  have h3 : Extern.MathBitsCarry.three name ⟨[.int k1 x, .int k2 y, .int k3 c]⟩ = (do
    let c' := (← asInt (.int k3 c)).toNat
    if c' > 1 then unsupported (.noEntry ("extern/math/bits." ++ name ++ ": a carry that is neither 0 nor 1"))
    pure ((← asInt (.int k1 x)).toNat, (← asInt (.int k2 y)).toNat, c')) := rfl
  rw [h3]
  have ha : ∀ (k : IntKind) (z : Int), Sem.run P (asInt (.int k z)) w = .ok z w := fun _ _ => rfl
  simp only [ha, Sem.run_bind, Result.andThen]
  rw [if_neg (by omega)]
  simp only [ha, Sem.run_bind, Sem.run_pure, Result.andThen]

theorem add_run {P : Program} {f : FuncId} {fn : Func} (hf : P.funcs[f]? = some fn) (hname : (fn.name == "runtime.NumGoroutine") = false)
    (hb : fn.body.isNone = true) (hn : Extern.findNext fn = none) (he : Extern.find fn = some (fun args => do
      let (x, y, c) ← Extern.MathBitsCarry.three "Add64" args
      pure (Extern.MathBitsCarry.pair ((x + y + c) % Extern.MathBitsCarry.m64) ((x + y + c) / Extern.MathBitsCarry.m64)))) :
    ∀ args v w, ladd args = some v → (callFunc f ⟨args⟩).run P w = .ok (.value v) w := by
  intro args v w h
  rw [run_callFunc_extern hf hname hb hn he]
  unfold ladd at h
  split at h
  · rename_i k1 x k2 y k3 c
    cases hc : Nat.ble c.toNat 1 with
    | false => simp [hc] at h
    | true =>
      simp only [hc, cond_true, Option.some.injEq] at h
      subst h
      have hc1 := Nat.le_of_ble_eq_true hc
      have : c.toNat = 0 ∨ c.toNat = 1 := by omega
      have key : ∀ k : Nat, k ≤ 1 → c.toNat = k → Sem.run P (do
        let (x, y, c) ← Extern.MathBitsCarry.three "Add64" ⟨[.int k1 x, .int k2 y, .int k3 c]⟩
        pure (Extern.MathBitsCarry.pair ((x + y + c) % Extern.MathBitsCarry.m64) ((x + y + c) / Extern.MathBitsCarry.m64))) w =
          .ok (Extern.MathBitsCarry.pair ((x.toNat + y.toNat + k) % Extern.MathBitsCarry.m64) ((x.toNat + y.toNat + k) / Extern.MathBitsCarry.m64)) w := by
        intro k hk hck
        rw [Sem.run_bind, three_run _ _ _ _ _ _ _ _ (by omega), hck]
        rfl
      rw [key _ hc1 rfl]
      rfl
  · cases h

theorem sub_run {P : Program} {f : FuncId} {fn : Func} (hf : P.funcs[f]? = some fn) (hname : (fn.name == "runtime.NumGoroutine") = false)
    (hb : fn.body.isNone = true) (hn : Extern.findNext fn = none) (he : Extern.find fn = some (fun args => do
      let (x, y, b) ← Extern.MathBitsCarry.three "Sub64" args
      pure (Extern.MathBitsCarry.pair ((x + Extern.MathBitsCarry.m64 - y - b) % Extern.MathBitsCarry.m64) (if x < y + b then 1 else 0)))) :
    ∀ args v w, lsub args = some v → (callFunc f ⟨args⟩).run P w = .ok (.value v) w := by
  intro args v w h
  rw [run_callFunc_extern hf hname hb hn he]
  unfold lsub at h
  split at h
  · rename_i k1 x k2 y k3 c
    cases hc : Nat.ble c.toNat 1 with
    | false => simp [hc] at h
    | true =>
      simp only [hc, cond_true, Option.some.injEq] at h
      subst h
      have hc1 := Nat.le_of_ble_eq_true hc
      have key : ∀ k : Nat, k ≤ 1 → c.toNat = k → Sem.run P (do
        let (x, y, b) ← Extern.MathBitsCarry.three "Sub64" ⟨[.int k1 x, .int k2 y, .int k3 c]⟩
        pure (Extern.MathBitsCarry.pair ((x + Extern.MathBitsCarry.m64 - y - b) % Extern.MathBitsCarry.m64) (if x < y + b then 1 else 0))) w =
          .ok (Extern.MathBitsCarry.pair ((x.toNat + Extern.MathBitsCarry.m64 - y.toNat - k) % Extern.MathBitsCarry.m64) (if x.toNat < y.toNat + k then 1 else 0)) w := by
        intro k hk hck
        rw [Sem.run_bind, three_run _ _ _ _ _ _ _ _ (by omega), hck]
        rfl
      rw [key _ hc1 rfl]
      rfl
  · cases h

/-- no function of this name, seen by going through them -/
noncomputable def noName (l : List Func) : Bool := List.rec (motive := fun _ => Bool) true (fun f _ ih => bif f.name == "runtime.NumGoroutine" then false else ih) l

theorem noName_all : ∀ {l : List Func}, noName l = true → ∀ f ∈ l, (f.name == "runtime.NumGoroutine") = false
  | [], _, f, h => by have _s := SymT.tab; cases h
  | x :: r, hn, f, h => by
    have hn' : (bif x.name == "runtime.NumGoroutine" then false else noName r) = true := hn
    cases hx : (x.name == "runtime.NumGoroutine") with
    | true => rw [hx] at hn'; cases hn'
    | false =>
      rw [hx] at hn'
      rcases List.mem_cons.1 h with rfl | h
      · exact hx
      · exact noName_all hn' f h

theorem clone_run {P : Program} {f : FuncId} {fn : Func} (hf : P.funcs[f]? = some fn) (hname : (fn.name == "runtime.NumGoroutine") = false)
    (hb : fn.body.isNone = true) (hn : Extern.findNext fn = none) (he : Extern.find fn = some Extern.MapsClone.clone) :
    ∀ t r w es ck, w.heap[r]? = some (.map es ck) → (callFunc f ⟨[.iface t (.map (some r))]⟩).run P w = .ok (.value (.iface t (.map (some w.heap.size)))) (w.alloc (.map es ck)) := by
  have _s := SymT.tab
  intro t r w es ck h
  rw [run_callFunc_extern hf hname hb hn he]
  have hc : Extern.MapsClone.clone ⟨[.iface t (.map (some r))]⟩ = (do
    let .map entries clock ← getObj r | stuck "maps.clone: a map expected"
    pure (.iface t (.map (some (← newObj (.map entries clock)))))) := rfl
  rw [hc]
  have h1 : (getObj r).run P w = .ok (.map es ck) w := MapKept.run_getObj_map h
  have h2 : (newObj (.map es ck)).run P w = .ok w.heap.size (w.alloc (.map es ck)) := rfl
  simp only [Sem.run_bind, h1, h2, Result.andThen_ok, Sem.run_pure]

/-- nothing that is not known -/
instance noSymV : SymV := ⟨fun _ => .int .i64 0, fun _ => ⟨_, _, rfl⟩⟩
instance noSymT [SymV] : SymT := ⟨[], fun _ h => by cases h⟩
end Go.Eng
