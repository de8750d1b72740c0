/- slices.Sorted(maps.Keys(m)) at keys of the kind int: what a function that does so gives, as a primitive of the engine. -/
import Derived.Test.YtopofdjgfbimnaaGreatEngV
import Derived.Below
import Derived.Shelf.SlIterI.Nil
import Derived.Shelf.SortM.Plain
import Derived.Shelf.SortM.SortNone
namespace Go.Eng
open Go.Maps Go.Shelf Go.RowKit
variable [SymV] [SymT]

def ins1 (x : Int) : List Int → List Int
  | [] => [x]
  | y :: r => bif decide (x ≤ y) then x :: y :: r else y :: ins1 x r

def isort : List Int → List Int
  | [] => []
  | x :: r => ins1 x (isort r)

theorem ins1_perm (x : Int) : ∀ l : List Int, (ins1 x l).Perm (x :: l)
  | [] => by have _s := SymT.tab; have _s := SymT.tab; exact .refl _
  | y :: r => by
    simp only [ins1]
    cases decide (x ≤ y) with
    | true => exact .refl _
    | false => exact ((ins1_perm x r).cons y).trans (.swap x y r)

theorem isort_perm : ∀ l : List Int, (isort l).Perm l
  | [] => .refl _
  | x :: r => (ins1_perm x _).trans ((isort_perm r).cons x)

theorem ins1_sorted (x : Int) : ∀ l : List Int, l.Pairwise (fun a b => leI a b = true) → (ins1 x l).Pairwise (fun a b => leI a b = true)
  | [], _ => by simp [ins1]
  | y :: r, h => by
    simp only [ins1]
    cases hd : decide (x ≤ y) with
    | true =>
      rw [cond_true]
      refine .cons (fun a ha => ?_) h
      simp only [decide_eq_true_eq] at hd
      rcases List.mem_cons.1 ha with rfl | ha
      · simpa [leI] using hd
      · have := List.rel_of_pairwise_cons h ha
        simp only [leI, decide_eq_true_eq] at this ⊢
        omega
    | false =>
      rw [cond_false]
      simp only [decide_eq_false_iff_not] at hd
      refine .cons (fun a ha => ?_) (ins1_sorted x r h.of_cons)
      rcases List.mem_cons.1 ((ins1_perm x r).mem_iff.1 ha) with rfl | ha
      · simp only [leI, decide_eq_true_eq]; omega
      · exact List.rel_of_pairwise_cons h ha

theorem isort_sorted : ∀ l : List Int, (isort l).Pairwise (fun a b => leI a b = true)
  | [] => .nil
  | x :: r => ins1_sorted x _ (isort_sorted r)

theorem mergeSort_isort {l ks : List Int} (h : l.Perm ks) : l.mergeSort leI = isort ks := by
  have tr : ∀ a b c : Int, leI a b = true → leI b c = true → leI a c = true := fun a b c h1 h2 => by simp only [leI, decide_eq_true_eq] at *; exact Int.le_trans h1 h2
  have to : ∀ a b : Int, (leI a b || leI b a) = true := fun a b => by simp only [leI, Bool.or_eq_true, decide_eq_true_eq]; exact Int.le_total a b
  refine List.Perm.eq_of_pairwise (le := fun a b => leI a b = true) (fun a b _ _ h1 h2 => ?_) (List.pairwise_mergeSort tr to l) (isort_sorted ks) (((List.mergeSort_perm l leI).trans h).trans (isort_perm ks).symm)
  simp only [leI, decide_eq_true_eq] at h1 h2
  exact Int.le_antisymm h1 h2

/-- a map whose keys are these -/
def HasKeys (P : Program) (kt : TypeId) (w : World) (r : Nat) (ks : List Int) : Prop :=
  ∃ (nn : Nat) (D0 : DataW Unit), w.ownsMap P kt (fun _ => some (.nil, [])) r nn D0 ∧ (intKeys D0).Perm ks ∧ Maps.size D0 ≤ 1048576

def keysL : List MapEntry → Option (List Int)
  | [] => some []
  | e :: r => match e.key with
    | .int .i64 n => bif (Lit.int .i64 n).wf then (keysL r).map (n :: ·) else none
    | _ => none

def memI (x : Int) : List Int → Bool
  | [] => false
  | y :: r => decide (x = y) || memI x r
def nodupI : List Int → Bool
  | [] => true
  | x :: r => !memI x r && nodupI r
def memN (x : Nat) : List Nat → Bool
  | [] => false
  | y :: r => Nat.beq x y || memN x r
def nodupN : List Nat → Bool
  | [] => true
  | x :: r => !memN x r && nodupN r

theorem memI_iff {x : Int} : ∀ {l : List Int}, memI x l = true ↔ x ∈ l
  | [] => by have _s := SymT.tab; simp [memI]
  | y :: r => by simp [memI, memI_iff (l := r)]
theorem nodupI_iff : ∀ {l : List Int}, nodupI l = true → l.Nodup
  | [], _ => .nil
  | x :: r, h => by
    simp only [nodupI, Bool.and_eq_true, Bool.not_eq_true'] at h
    refine List.nodup_cons.2 ⟨fun hm => ?_, nodupI_iff h.2⟩
    rw [memI_iff.2 hm] at h; cases h.1
theorem memN_iff {x : Nat} : ∀ {l : List Nat}, memN x l = true ↔ x ∈ l
  | [] => by have _s := SymT.tab; simp [memN]
  | y :: r => by simp [memN, memN_iff (l := r)]
theorem nodupN_iff : ∀ {l : List Nat}, nodupN l = true → l.Nodup
  | [], _ => .nil
  | x :: r, h => by
    simp only [nodupN, Bool.and_eq_true, Bool.not_eq_true'] at h
    refine List.nodup_cons.2 ⟨fun hm => ?_, nodupN_iff h.2⟩
    rw [memN_iff.2 hm] at h; cases h.1

theorem keysL_at : ∀ {es : List MapEntry} {ks : List Int}, keysL es = some ks → es.map (·.key) = ks.map encZ ∧ ∀ x ∈ ks, (Lit.int .i64 x).wf = true
  | [], ks, h => by have _s := SymT.tab; cases h; simp
  | e :: r, ks, h => by
    simp only [keysL] at h
    split at h
    · rename_i n hk
      cases hw : (Lit.int .i64 n).wf with
      | false => rw [hw] at h; cases h
      | true =>
        rw [hw] at h
        simp only [cond_true, Option.map_eq_some_iff] at h
        obtain ⟨l, hl, rfl⟩ := h
        obtain ⟨h1, h2⟩ := keysL_at hl
        refine ⟨by simp [h1, hk], fun x hx => ?_⟩
        rcases List.mem_cons.1 hx with rfl | hx
        · exact hw
        · exact h2 x hx
    · cases h

def stampB (es : List MapEntry) (ck : Nat) (ks : List Int) : Bool :=
  es.all (fun e => Nat.blt e.born ck) && nodupN (es.map (·.born)) && nodupI ks && Nat.ble es.length 1048576

theorem hasKeys_of {P : Program} {kt : TypeId} (hkt : P.underlying kt = some (.int .i64)) {φ : Phi} {es : List MapEntry} {ck : Nat} {ks : List Int} {l : Loc} {w : World} (hb : BR φ (.map es ck) l w) (hk : keysL es = some ks) (hs : stampB es ck ks = true) : HasKeys P kt w l.b ks := by
  obtain ⟨es', h1, h2⟩ := hb
  obtain ⟨k1, k2⟩ := keysL_at hk
  unfold stampB at hs
  simp only [Bool.and_eq_true, List.all_eq_true] at hs
  obtain ⟨⟨⟨s1, s2⟩, s3⟩, s4⟩ := hs
  have s4 := Nat.le_of_ble_eq_true s4
  have hlen := h2.len
  have hkeys : es'.toList.map (·.key) = es.map (·.key) := by
    refine List.ext_getElem? fun i => ?_
    rw [List.getElem?_map, List.getElem?_map]
    cases he : es[i]? with
    | none => rw [List.getElem?_eq_none_iff] at he; rw [List.getElem?_eq_none (by omega)]
    | some e => obtain ⟨e', g1, g2, _⟩ := h2.at_ i e he; rw [g1]; simp [g2]
  have hborn : es'.toList.map (·.born) = es.map (·.born) := by
    refine List.ext_getElem? fun i => ?_
    rw [List.getElem?_map, List.getElem?_map]
    cases he : es[i]? with
    | none => rw [List.getElem?_eq_none_iff] at he; rw [List.getElem?_eq_none (by omega)]
    | some e => obtain ⟨e', g1, _, _, g2, _⟩ := h2.at_ i e he; rw [g1]; simp [g2]
  have hrd : ∀ x ∈ es'.toList, ∃ n : Int, n ∈ ks ∧ x.key = encZ n := fun x hx => by
    have : x.key ∈ es'.toList.map (·.key) := List.mem_map_of_mem hx
    rw [hkeys, k1] at this
    obtain ⟨n, hn, he⟩ := List.mem_map.1 this
    exact ⟨n, hn, he.symm⟩
  have hkey : ∀ n ∈ ks, keyOf P kt (encZ n) = some (.int .i64 n) := fun n hn => by
    simp [keyOf, hkt, mapKey, k2 n hn]
  have hrg : ∀ x ∈ es'.toList, ∀ n : Int, n ∈ ks → x.key = encZ n → WideElems.rd (H := Unit) P kt (fun _ => some (.nil, [])) x = some (.int .i64 n, .nil) := fun x _ n hn he => by
    simp [WideElems.rd, he, hkey n hn]
  refine ⟨es'.toList.length, _, ⟨es', ck, h1, ⟨?_, ⟨?_, ?_, ?_⟩, ?_⟩, by simp, rfl⟩, ?_, ?_⟩
  · have : maxLen ≥ 1048576 := by decide
    rw [← Array.length_toList]; omega
  · intro x hx
    have : x.born ∈ es'.toList.map (·.born) := List.mem_map_of_mem hx
    rw [hborn] at this
    obtain ⟨e, he, hbe⟩ := List.mem_map.1 this
    rw [← hbe]; exact blt_lt (s1 e he)
  · rw [hborn]; exact nodupN_iff s2
  · rw [hkeys, k1]
    exact List.Pairwise.map _ (fun a b h he => h (encZ_inj he)) (nodupI_iff s3)
  · intro x hx
    obtain ⟨n, hn, he⟩ := hrd x hx
    exact ⟨_, hrg x hx n hn he⟩
  · show ((es'.toList.map _).foldr DataW.insert [] |>.map fun p => intOf p.1).Perm ks
    refine ((WideShapes.sorted_perm _).map _).trans ?_
    have : ((es'.toList.map (WideElems.rg P kt (fun _ => some ((.nil : DataW Unit), [])))).map fun p => intOf p.1) = ks := by
      have hh : ∀ (xs : List MapEntry) (l : List Int), (∀ n ∈ l, keyOf P kt (encZ n) = some (.int .i64 n)) → xs.map (·.key) = l.map encZ → ((xs.map (WideElems.rg P kt (fun _ => some ((.nil : DataW Unit), [])))).map fun p => intOf p.1) = l := by
        intro xs
        induction xs with
        | nil => intro l _ h; cases l with
          | nil => rfl
          | cons a b => simp at h
        | cons x r ih =>
          intro l hl h
          cases l with
          | nil => simp at h
          | cons a b =>
            simp only [List.map_cons, List.cons.injEq] at h ⊢
            refine ⟨?_, ih b (fun n hn => hl n (by simp [hn])) h.2⟩
            simp [WideElems.rg, WideElems.rd, h.1, hl a (by simp), intOf]
      exact hh es'.toList ks hkey (hkeys.trans k1)
    rw [this]
  · show ((es'.toList.map _).foldr DataW.insert []).length ≤ 1048576
    rw [(WideShapes.sorted_perm _).length_eq, List.length_map]
    omega

/-- what a function that hands back a map's keys, sorted, gives: 'fn' the function, 'fnone' what it asks first, the map at offset k of the receiver -/
def KeysFn (P : Program) (fn fnone kt k : Nat) : Prop :=
  ∀ (B off : Nat) (w : World) (Q : World → Prop) (ks : List Int), Calls P fnone #[.pointer (some ⟨B, off, none⟩)] w (fun e w1 => e = .returned (.bool false) ∧ Q w1) →
    (∀ w1, Q w1 → ∃ r, w1.cell? ⟨B, off + k, none⟩ = some (.map (some r)) ∧ HasKeys P kt w1 r ks) →
    Calls P fn #[.pointer (some ⟨B, off, none⟩)] w fun e w2 => ∃ v w1, e = .returned v ∧ Q w1 ∧ w2.ownsRow w1.heap.size kt 1 v ks.length ((isort ks).map encZ) ∧ (v = .slice none 0 0 ↔ ks = []) ∧ Below w1.heap.size w1 w2

noncomputable def keysPrim (none_ : CallT) (fnone k : Nat) (args : List Value) (m : LMem) : Option (Value × LMem) :=
  match args with
  | [.pointer (some ⟨b, off, none⟩)] =>
    match m.get b with
    | some (.cells _) =>
      match none_ fnone [.pointer (some ⟨b, off, none⟩)] m with
      | some (.bool false, m1) => match m1.get b with
        | some (.cells c) => match c[off + k]? with
          | some (.map (some r)) => match m1.get r with
            | some (.map es ck) => match keysL es with
              | some ks => bif stampB es ck ks then
                  (match ks with
                  | [] => some (.slice none 0 0, m1)
                  | x :: xs => match m1.alloc (.cells ((isort (x :: xs)).map encZ)) with
                    | some m2 => some (.slice (some ⟨m1.next, 0, some 1⟩) (xs.length + 1) (xs.length + 1), m2)
                    | none => none)
                else none
              | none => none
            | _ => none
          | _ => none
        | _ => none
      | _ => none
    | _ => none
  | _ => none

theorem Sim.below {n : Nat} {φ : Phi} {w w' : World} (h : Below w.heap.size w w') : Sim n φ φ w w' := by
  have _s := SymT.tab
  have _s := SymT.tab
  exact
  ⟨Ext.refl φ, fun id l h => .inl ⟨id, l, h, rfl⟩, fun _ _ h => h, ⟨h.os, h.tape, h.output, h.size, fun k hk _ => h.block k hk⟩⟩

theorem encZ_VRL {φ : Phi} : ∀ l : List Int, VRL φ (l.map encZ) (l.map encZ)
  | [] => by have _s := SymT.tab; exact .nil
  | x :: r => .cons _ _ _ _ (.int _ x) (encZ_VRL r)

theorem keysPrim_ok {P : Program} {fn fnone kt k : Nat} (hkt : P.underlying kt = some (.int .i64)) (hf : KeysFn P fn fnone kt k) {none_ : CallT} (hn : CallSound P none_) {args : List Value} {m m' : LMem} {v : Value}
    (h : keysPrim none_ fnone k args m = some (v, m')) (hw : WF m) : SC P fn args m v m' := by
  unfold keysPrim at h
  split at h <;> try cases h
  rename_i b off
  split at h <;> try cases h
  rename_i c0 hc0
  split at h <;> try cases h
  rename_i m1 hcall
  obtain ⟨⟨c1, c2⟩, c3⟩ := hn fnone _ m _ m1 hcall hw
  split at h <;> try cases h
  rename_i c hc
  split at h <;> try cases h
  rename_i r hr
  split at h <;> try cases h
  rename_i es ck hes
  split at h <;> try cases h
  rename_i ks hks
  cases hst : stampB es ck ks with
  | false => rw [hst] at h; cases h
  | true =>
  rw [hst] at h
  simp only [cond_true] at h
  -- the walk, at whatever world
  have key : ∀ φ w args', MR φ m.get w → Bd φ m.next → VRL φ [.pointer (some ⟨b, off, none⟩)] args' →
      Calls P fn ⟨args'⟩ w fun e w2 => ∃ v w1 φ1, e = .returned v ∧ (Sim m.next φ φ1 w w1 ∧ MR φ1 m1.get w1 ∧ Bd φ1 m1.next) ∧ w2.ownsRow w1.heap.size kt 1 v ks.length ((isort ks).map encZ) ∧ (v = .slice none 0 0 ↔ ks = []) ∧ Below w1.heap.size w1 w2 := by
    intro φ w args' hm hb ha
    have ha' := ha
    cases ha with
    | cons _ y _ ys hy hys =>
    cases hys
    have hcl := c3 φ w _ hm hb ha'
    cases hy with
    | pdead _ _ _ a hd => rw [hm.dead b hd] at hc0; cases hc0
    | ptr _ _ l hl =>
      refine (hf l.b (l.sh + off) w (fun w1 => ∃ φ1, Sim m.next φ φ1 w w1 ∧ MR φ1 m1.get w1 ∧ Bd φ1 m1.next) ks (hcl.mono fun e w1 ⟨v', φ1, he, hsim, hv, hm1, hb1⟩ => ?_) ?_).mono ?_
      · cases hv
        exact ⟨he, φ1, hsim, hm1, hb1⟩
      · rintro w1 ⟨φ1, hsim, hm1, hb1⟩
        rcases hsim.ext.at hl with h1 | h1
        · obtain ⟨B, g1, g2⟩ := hm1.live b l h1
          rw [hc] at g1
          cases g1
          obtain ⟨c', e, k1, k2, k3, k4⟩ := g2
          obtain ⟨v', k5, k6⟩ := k4 _ _ hr
          have hcell : w1.cell? ⟨l.b, l.sh + off + k, none⟩ = some v' := by
            simp only [World.cell?, k1]
            rw [← k5, Nat.add_assoc]; rfl
          cases k6 with
          | map _ l' hl' =>
            obtain ⟨B, g1, g2⟩ := hm1.live r l' hl'
            rw [hes] at g1
            cases g1
            exact ⟨l'.b, hcell, hasKeys_of hkt g2 hks hst⟩
          | mdead _ r' hd => rw [hm1.dead r hd] at hes; cases hes
        · rw [hm1.dead b h1] at hc; cases hc
      · rintro e w2 ⟨v, w1, he, ⟨φ1, hq⟩, h1, h2, h3⟩
        exact ⟨v, w1, φ1, he, hq, h1, h2, h3⟩
  have hMR : ∀ φ1 w1 w2, MR φ1 m1.get w1 → Below w1.heap.size w1 w2 → MR φ1 m1.get w2 := fun φ1 w1 w2 hm1 hbel =>
    ⟨fun id l hl => by obtain ⟨B, g1, g2⟩ := hm1.live id l hl; exact ⟨B, g1, g2.mono (Ext.refl φ1) (hbel.block _ g2.lt)⟩, hm1.dead, hm1.inj⟩
  cases ks with
  | nil =>
    cases h
    refine ⟨⟨c1, c2⟩, fun φ w args' hm hb ha => (key φ w args' hm hb ha).mono ?_⟩
    rintro e w2 ⟨v, w1, φ1, rfl, ⟨hsim, hm1, hb1⟩, _, hnil, hbel⟩
    rw [hnil.2 rfl]
    exact ⟨_, φ1, rfl, hsim.trans c1 (Sim.below hbel), .snil 0 0, hMR φ1 w1 w2 hm1 hbel, hb1⟩
  | cons x xs =>
    simp only at h
    split at h <;> try cases h
    rename_i m2 hal
    obtain ⟨a1, a2, a3, a4⟩ := LMem.alloc_spec c2 hal
    refine ⟨⟨by omega, a4⟩, fun φ w args' hm hb ha => (key φ w args' hm hb ha).mono ?_⟩
    rintro e w2 ⟨v, w1, φ1, rfl, ⟨hsim, hm1, hb1⟩, hrow, hnil, hbel⟩
    obtain ⟨_, hrow | ⟨g, cap, cur, rfl, r1, r2, r3, r4, r5, r6⟩⟩ := hrow
    · have := hnil.1 hrow.1; cases this
    have hn0 : φ1 m1.next = none := hb1.none (Nat.le_refl _)
    simp only [Nat.mul_one] at r5 r6
    have hglt : g < w2.heap.size := (Array.getElem?_eq_some_iff.1 r2).1
    refine ⟨_, ins φ1 m1.next ⟨g, 0, cap⟩, rfl, hsim.trans c1 ⟨ins_ext hn0, fun id l' hl' => ?_, fun id hid h0 => ?_, (Sim.below (n := 0) (φ := φ1) hbel).fr⟩, ?_, ?_, ?_⟩
    · by_cases he : id = m1.next
      · subst he; rw [ins_same] at hl'; cases hl'; exact .inr r1
      · rw [ins_other he] at hl'; exact .inl ⟨id, l', hl', rfl⟩
    · rw [ins_other (by omega)]; exact h0
    · have := VR.slice (φ := ins φ1 m1.next ⟨g, 0, cap⟩) m1.next 0 (some 1) (xs.length + 1) (xs.length + 1) cap ⟨g, 0, cap⟩ (ins_same _ _ _) (Nat.le_refl _) r3 (fun h => by cases h) (fun e he => by cases he; simp)
      exact this
    · refine (hMR φ1 w1 w2 hm1 hbel).insert hn0 (fun id l' hl' => ?_) a2 (fun j hj _ => a3 j hj) (fun id l' hl' => rfl) ?_
      · obtain ⟨B, g1, g2⟩ := hm1.live id l' hl'
        have := g2.lt
        show l'.b ≠ g
        omega
      · refine ⟨cur, kt, r2, r5, ?_, fun i v hv => ?_⟩
        · show 0 + ((isort (x :: xs)).map encZ).length ≤ cap
          rw [List.length_map, (isort_perm _).length_eq]
          simpa using r3
        · have hv' : ((isort (x :: xs)).map encZ)[i]? = some v := hv
          rw [← r6] at hv'
          have hi : i < (x :: xs).length := by
            rcases Nat.lt_or_ge i (x :: xs).length with hlt | hge
            · exact hlt
            · rw [List.getElem?_take_eq_none hge] at hv'; cases hv'
          rw [List.getElem?_take_of_lt hi] at hv'
          refine ⟨v, ?_, ?_⟩
          · rw [Nat.zero_add]; simpa using hv'
          · have : v ∈ (isort (x :: xs)).map encZ := List.mem_of_getElem? hv
            obtain ⟨n, _, rfl⟩ := List.mem_map.1 this
            exact .int _ n
    · rw [a1]; exact hb1.ins

/-- a primitive for one function -/
noncomputable def keysPrim1 (P : Program) (X : ExtT) (fn fnone k : Nat) : PrimT := fun g => bif Nat.beq g fn then some (keysPrim (callFF P X (fun _ => none) 1000 20) fnone k) else none

theorem keysPrim1_ok {P : Program} {X : ExtT} (hP : POK P X) {fn fnone kt k : Nat} (hkt : P.underlying kt = some (.int .i64)) (hf : KeysFn P fn fnone kt k) : PrimOK P (keysPrim1 P X fn fnone k) := by
  intro g p h args m v m' hp hw
  unfold keysPrim1 at h
  cases hb : Nat.beq g fn with
  | false => rw [hb] at h; cases h
  | true =>
    rw [hb] at h
    cases h
    have := Nat.eq_of_beq_eq_true hb
    subst this
    exact keysPrim_ok hkt hf (by rw [callFF_eq]; exact call_sound hP (noPrim P) 1000 20) hp hw

end Go.Eng
