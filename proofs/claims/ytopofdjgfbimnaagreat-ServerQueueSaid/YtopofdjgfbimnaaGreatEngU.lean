/- Arguments that no run looks into: structs of integers, bools and slices, as the engine is handed them. -/
import Derived.Test.YtopofdjgfbimnaaGreatEngT
namespace Go.Eng
open Go.RowKit
variable [SymV] [SymT]

inductive Sh where
  | int (k : IntKind)
  | bool
  | slice

def shOf (P : Program) (t : TypeId) : Option Sh :=
  match P.underlying t with
  | some (.int k) => some (.int k)
  | some .bool => some .bool
  | some (.slice _) => some .slice
  | _ => none

def shAll (P : Program) : List TypeId → Option (List Sh)
  | [] => some []
  | t :: r => match shOf P t with
    | none => none
    | some s => match shAll P r with
      | none => none
      | some l => some (s :: l)

def shs (P : Program) (t : TypeId) : Option (List Sh) :=
  match P.cellTypes P.depth t with
  | some ts => shAll P ts
  | none => none

/-- a cell of that shape -/
def Fits1 : Sh → Value → Prop
  | .int k, v => ∃ n, v = .int k n
  | .bool, v => ∃ b, v = .bool b
  | .slice, v => v = .slice none 0 0 ∨ ∃ a len cap, v = .slice (some a) len cap ∧ len ≤ cap

inductive FitsL : List Sh → List Value → Prop where
  | nil : FitsL [] []
  | cons (s : Sh) (v : Value) (l : List Sh) (vs : List Value) : Fits1 s v → FitsL l vs → FitsL (s :: l) (v :: vs)

theorem fits1_of {P : Program} {w : World} {r : Reach} {base : Nat} {t : TypeId} {s : Sh} {v : Value} (hs : shOf P t = some s) (h : Cell.okWide P w r base t v) : Fits1 s v := by
  have _s := SymT.tab
  unfold shOf at hs
  split at hs <;> cases hs
  · rename_i k hu
    simp only [Cell.okWide, hu] at h
    cases v <;> simp_all [Cell.ok, Fits1]
  · rename_i hu
    simp only [Cell.okWide, hu] at h
    cases v <;> simp_all [Cell.ok, Fits1]
  · rename_i e hu
    simp only [Cell.okWide, hu] at h
    cases v <;> try (simp_all [Cell.ok]; done)
    rename_i a len cap
    cases a with
    | none =>
      left
      unfold Cell.ok at h
      rw [hu] at h
      split at h <;> simp_all
    | some a =>
      right
      unfold Cell.ok at h
      rw [hu] at h
      simp only at h
      exact ⟨a, len, cap, rfl, h.1⟩

theorem fitsL_of {P : Program} {w : World} {r : Reach} {base : Nat} : ∀ (ts : List TypeId) (l : List Sh) (vs : List Value), shAll P ts = some l → vs.length = ts.length →
    (∀ (i : Nat) (v : Value), vs[i]? = some v → ∃ u, ts[i]? = some u ∧ Cell.okWide P w r base u v) → FitsL l vs
  | [], l, vs, hl, hn, _ => by
    cases hl
    cases vs with
    | nil => exact .nil
    | cons x r => simp at hn
  | t :: ts, l, vs, hl, hn, h => by
    cases vs with
    | nil => simp at hn
    | cons v vs =>
      simp only [shAll] at hl
      split at hl
      · cases hl
      · rename_i s hs
        split at hl
        · cases hl
        · rename_i l' hl'
          cases hl
          obtain ⟨u, hu, hv⟩ := h 0 v rfl
          cases hu
          refine .cons _ _ _ _ (fits1_of hs hv) (fitsL_of (w := w) (r := r) (base := base) ts l' vs hl' (by simpa using hn) fun i x hx => ?_)
          exact h (i + 1) x (by simpa using hx)

theorem fits_struct {P : Program} {w : World} {r : Reach} {base : Nat} {t : TypeId} {l : List Sh} {v : Value} (hu : ∃ fs, P.underlying t = some (.struct fs)) (hl : shs P t = some l) (hn : P.cellsOf t = l.length)
    (h : Value.okWide P w r base t v) : ∃ cs, v = .agg cs ∧ FitsL l cs.toList := by
  obtain ⟨fs, hu⟩ := hu
  simp only [Value.okWide, hu] at h
  obtain ⟨cs, rfl, hsz, ts, hts, ⟨n, hm⟩, hc⟩ := h
  refine ⟨cs, rfl, ?_⟩
  unfold shs at hl
  rw [hts] at hl
  have hlen : ∀ (ts : List TypeId) (l : List Sh), shAll P ts = some l → l.length = ts.length := by
    intro ts
    induction ts with
    | nil => intro l h; cases h; rfl
    | cons t r ih =>
      intro l h
      simp only [shAll] at h
      split at h
      · cases h
      · split at h
        · cases h
        · rename_i l' hl'
          cases h
          simp [ih l' hl']
  have hll := hlen ts l hl
  refine fitsL_of (w := w) (r := r) (base := base) ts l cs.toList hl (by rw [Array.length_toList, hsz, hn, hll]) fun i x hx => ?_
  have hx' : cs[i]? = some x := by simpa using hx
  obtain ⟨u, hu', hv⟩ := hc i x hx'
  have hi : i < cs.size := (Array.getElem?_eq_some_iff.1 hx').1
  rw [Nat.mod_eq_of_lt (by omega)] at hu'
  exact ⟨u, hu', hv⟩

/-- the logical cells: integers and bools by number, slices dead or nil -/
def lmk : List Sh → (Nat → Int) → (Nat → Bool) → List (Option (Nat × Nat)) → List Value
  | [], _, _, _ => []
  | .int k :: r, n, b, sl => .int k (n 0) :: lmk r (fun i => n (i + 1)) b sl
  | .bool :: r, n, b, sl => .bool (b 0) :: lmk r n (fun i => b (i + 1)) sl
  | .slice :: r, n, b, sl => match sl with
    | [] => []
    | none :: sl => .slice none 0 0 :: lmk r n b sl
    | some (len, cap) :: sl => .slice (some ⟨0, 0, none⟩) len cap :: lmk r n b sl

def slices : List Sh → Nat
  | [] => 0
  | .slice :: r => slices r + 1
  | _ :: r => slices r

theorem fits_mk {φ : Phi} (hφ : φ 0 = some none) {l : List Sh} {vs : List Value} (h : FitsL l vs) : ∃ n b sl, sl.length = slices l ∧ (∀ x ∈ sl, ∀ y, x = some y → y.1 ≤ y.2) ∧ VRL φ (lmk l n b sl) vs := by
  have _s := SymT.tab
  have _s := SymT.tab
  induction h with
  | nil => exact ⟨fun _ => 0, fun _ => false, [], rfl, by simp, .nil⟩
  | cons s v l vs h1 _ ih =>
    obtain ⟨n, b, sl, i1, i2, i3⟩ := ih
    cases s with
    | int k =>
      obtain ⟨x, rfl⟩ := h1
      exact ⟨fun i => Nat.casesOn i x n, b, sl, i1, i2, .cons _ _ _ _ (.int k x) i3⟩
    | bool =>
      obtain ⟨x, rfl⟩ := h1
      exact ⟨n, fun i => Nat.casesOn i x b, sl, i1, i2, .cons _ _ _ _ (.bool x) i3⟩
    | slice =>
      rcases h1 with rfl | ⟨a, len, cap, rfl, hle⟩
      · exact ⟨n, b, none :: sl, by simp [slices, i1], by
          intro x hx y hy
          rcases List.mem_cons.1 hx with rfl | hx
          · cases hy
          · exact i2 x hx y hy, .cons _ _ _ _ (.snil 0 0) i3⟩
      · exact ⟨n, b, some (len, cap) :: sl, by simp [slices, i1], by
          intro x hx y hy
          rcases List.mem_cons.1 hx with rfl | hx
          · cases hy; exact hle
          · exact i2 x hx y hy, .cons _ _ _ _ (.sdead 0 0 none len cap cap a hφ hle (Nat.le_refl _) fun _ => rfl) i3⟩

/-- a memory with one dead block -/
def m1 : LMem := ⟨TM.lf (some .dead), 1⟩
def phi1 : Phi := fun id => match id with
  | 0 => some none
  | _ => none

theorem m1_get (id : Nat) (b : LB) (h : m1.get id = some b) : b = .dead := by
  have _s := SymT.tab
  have hlt := LMem.get_lt h
  rw [LMem.get_tr hlt] at h
  have : TM.get m1.tr id = some .dead := TM.get_lf _ _
  rw [this] at h
  cases h; rfl

theorem m1_wf : WF m1 := ⟨by show 1 ≤ 16384; omega, fun id b h => by rw [m1_get id b h]; exact Nat.zero_le _⟩

theorem phi1_live (id : Nat) (l : Loc) (h : phi1 id = some (some l)) : False := by
  have _s := SymT.tab
  cases id with
  | zero => cases h
  | succ n => cases h

/-- a call that answers true and leaves alone what was there -/
theorem true_call {P : Program} {X : ExtT} (hP : POK P X) {prim : FuncId → Option (List Value → LMem → Option (Value × LMem))} (hp : PrimOK P prim) {fuel n : Nat} {f : FuncId} {args args' : List Value}
    (h : isTrue (callFF P X prim fuel n f args m1) = true) (ha : VRL phi1 args args') (w : World) :
    Calls P f ⟨args'⟩ w fun e w' => e = .returned (.bool true) ∧ Below w.heap.size w w' := by
  obtain ⟨m, hm⟩ := isTrue_some h
  rw [callFF_eq] at hm
  have hd : ∀ id, phi1 id = some none → m1.get id = some .dead := by
    intro id h
    cases id with
    | zero => rfl
    | succ n => cases h
  have hb : Bd phi1 m1.next := by
    intro id h
    cases id with
    | zero => exact Nat.zero_lt_one
    | succ n => exact absurd rfl h
  have hs := (call_sound hP hp fuel n f args m1 _ _ hm m1_wf).2 phi1 w args'
    ⟨fun id l h => (phi1_live id l h).elim, hd, fun id jd l l' h => (phi1_live id l h).elim⟩ hb ha
  refine hs.mono fun e w' ⟨v', φ', he, hsim, hv, _, _⟩ => ?_
  cases hv
  exact ⟨he, hsim.fr.os, hsim.fr.tape, hsim.fr.output, hsim.fr.size, fun k hk => hsim.fr.same k hk fun id l h => (phi1_live id l h).elim⟩
end Go.Eng
