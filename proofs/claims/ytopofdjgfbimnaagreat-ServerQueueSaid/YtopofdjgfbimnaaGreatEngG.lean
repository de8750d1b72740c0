/- The engine's quiet operations and its new blocks are those of the model: the whole. -/
import Derived.Test.YtopofdjgfbimnaaGreatEngF
import Derived.Laws.IdiomStrings
namespace Go.Eng
variable [SymV] [SymT]
section
variable {P : Program}

theorem VRL.map {φ : Phi} {ρ ρ' : Operand → Value} : ∀ {xs : List Operand}, (∀ x ∈ xs, VR φ (ρ x) (ρ' x)) → VRL φ (xs.map ρ) (xs.map ρ')
  | [], _ => by have _s := SymT.tab; have _s := SymT.tab; exact .nil
  | x :: xs, h => .cons _ _ _ _ (h x (by simp)) (VRL.map fun y hy => h y (by simp [hy]))

theorem VRP.map {φ : Phi} {ρ ρ' : Operand → Value} : ∀ {xs : List (Nat × Operand)}, (∀ p ∈ xs, VR φ (ρ p.2) (ρ' p.2)) → VRP φ (xs.map fun p => (p.1, ρ p.2)) (xs.map fun p => (p.1, ρ' p.2))
  | [], _ => by have _s := SymT.tab; exact .nil
  | x :: xs, h => .cons _ _ _ _ _ (h x (by simp)) (VRP.map fun y hy => h y (by simp [hy]))

theorem VRO.map {φ : Phi} {ρ ρ' : Operand → Value} {x : Option Operand} (h : ∀ y ∈ x.toList, VR φ (ρ y) (ρ' y)) : VRO φ (x.map ρ) (x.map ρ') := by
  have _s := SymT.tab
  cases x with
  | none => exact .none
  | some x => exact .some _ _ (h x (by simp))

theorem qsim {φ : Phi} {g : Nat → Option LB} {w : World} {o : Oper} {ρ ρ' : Operand → Value} {v : Value} (hm : MRp φ g w) (hρ : ∀ x ∈ o.op.operands.toList, VR φ (ρ x) (ρ' x))
    (h : qop P g ρ o = some v) : ∃ v', (execOp ρ' o).run P w = .ok (.value v') w ∧ VR φ v v' := by
  obtain ⟨dst, op, type, pos, after, guard⟩ := o
  have fin : ∀ (s : Sem Value), (∃ v', s.run P w = .ok v' w ∧ VR φ v v') → ∃ v', (do pure (Next.value (← s)) : Sem Next).run P w = .ok (.value v') w ∧ VR φ v v' := by
    rintro s ⟨v', h1, h2⟩
    exact ⟨v', by simp [h1], h2⟩
  cases op <;> simp only [qop] at h <;> try (cases h; done)
  case move x => cases h; exact ⟨_, rfl, hρ x (by simp [Op.operands])⟩
  case assign x => cases h; exact ⟨_, rfl, hρ x (by simp [Op.operands])⟩
  case pick c a b =>
    have hc := hρ c (by simp [Op.operands])
    split at h
    · rename_i hb; rw [hb] at hc; cases h
      refine ⟨_, ?_, hρ a (by simp [Op.operands])⟩
      generalize hq : ρ' c = q at hc
      cases hc
      simp [execOp, hq, asBool]
    · rename_i hb; rw [hb] at hc; cases h
      refine ⟨_, ?_, hρ b (by simp [Op.operands])⟩
      generalize hq : ρ' c = q at hc
      cases hc
      simp [execOp, hq, asBool]
    · cases h
  case build t parts =>
    simp only [Option.map_eq_some_iff] at h
    obtain ⟨c, hc, rfl⟩ := h
    obtain ⟨c', h1, h2⟩ := built_sim hc (VRP.map (ρ := ρ) (ρ' := ρ') (xs := parts.toList) fun p hp => hρ p.2 (by
      simp only [Op.operands, List.toList_toArray]
      exact List.mem_map_of_mem hp))
    refine fin _ ⟨.agg c', ?_, .agg _ _ h2⟩
    exact run_build w t _ c' (by simpa using h1)
  case load t a =>
    have ha := hρ a (by simp [Op.operands])
    split at h
    · rename_i b off hb
      rw [hb] at ha
      split at h
      · rename_i c hc
        obtain ⟨l, hl, hy, hbr⟩ := ptr_cells hm ha hc
        obtain ⟨v', h1, h2⟩ := load_sim (P := P) hbr h
        exact fin _ ⟨v', by simp [Instr.loadAt, hy, Instr.sureAddr, h1], h2⟩
      · cases h
    · cases h
  case nilCheck x =>
    have hx := hρ x (by simp [Op.operands])
    split at h
    · rename_i a hb
      rw [hb] at hx; cases h
      generalize hq : ρ' x = q at hx
      refine ⟨q, ?_, hx⟩
      cases hx <;> simp [execOp, hq]
    · rename_i t u hb
      rw [hb] at hx; cases h
      generalize hq : ρ' x = q at hx
      refine ⟨q, ?_, hx⟩
      cases hx; simp [execOp, hq]
    · rename_i f xs ys hb
      rw [hb] at hx; cases h
      generalize hq : ρ' x = q at hx
      refine ⟨q, ?_, hx⟩
      cases hx; simp [execOp, hq]
    · cases h
  case binOp op t x y ty =>
    exact fin _ (bin_sim w h (hρ x (by simp [Op.operands])) (hρ y (by simp [Op.operands])))
  case unOp op t x =>
    have hx := hρ x (by simp [Op.operands])
    split at h
    · rename_i k n hb
      rw [hb] at hx
      generalize hq : ρ' x = q at hx
      cases hx
      have h0 : ubF 1 v = 0 := by
        cases op <;> simp [Op.unary, Op.intArith, Op.intBits, pureSem, Pure.pure, stuck] at h <;> (subst h; rfl)
      refine fin _ ⟨v, ?_, VR.refl 1 v h0⟩
      simp only [hq]; exact pureSem_run h w
    · rename_i b hb
      rw [hb] at hx
      generalize hq : ρ' x = q at hx
      cases hx
      have h0 : ubF 1 v = 0 := by
        cases op <;> simp [Op.unary, pureSem, Pure.pure, stuck] at h <;> (subst h; rfl)
      refine fin _ ⟨v, ?_, VR.refl 1 v h0⟩
      simp only [hq]; exact pureSem_run h w
    · rename_i k n m hb
      rw [hb] at hx
      generalize hq : ρ' x = q at hx
      obtain ⟨g1, g2, g3⟩ := ulook_spec SymT.ok h
      have hx' := hx.den g1
      rw [← hx'] at g3
      refine fin _ ⟨_, ?_, VR.of_den g2⟩
      simp only [hq]; exact pureSem_run g3 w
    · cases h
  case convert src dst x => exact fin _ (conv_sim hm h (hρ x (by simp [Op.operands])))
  case makeInterface t x =>
    split at h
    · cases h
    · rename_i d hn hd
      cases h
      refine fin _ ⟨.iface t (ρ' x), ?_, .iface _ _ _ (hρ x (by simp [Op.operands]))⟩
      cases d <;> first
        | exact (hn _ rfl).elim
        | simp [Instr.makeInterface, run_underlying hd]
    · cases h
  case makeFunc fn first captured =>
    cases h
    refine fin _ ⟨.func fn (first.map ρ') (captured.map ρ'), by simp [Instr.makeFunc], .func _ _ _ _ _ ?_ ?_⟩
    · simpa using VRL.map (ρ := ρ) (ρ' := ρ') (xs := first.toList) fun x hx => hρ x (by simp only [Op.operands, Array.toList_append]; exact List.mem_append_left _ hx)
    · simpa using VRL.map (ρ := ρ) (ρ' := ρ') (xs := captured.toList) fun x hx => hρ x (by simp only [Op.operands, Array.toList_append]; exact List.mem_append_right _ hx)
  case fieldAddr s x f => exact fin _ (fieldAddr_sim h (hρ x (by simp [Op.operands])))
  case field s x f => exact fin _ (field_sim h (hρ x (by simp [Op.operands])))
  case indexAddr t x i => exact fin _ (indexAddr_sim h (hρ x (by simp [Op.operands])) (hρ i (by simp [Op.operands])))
  case index t x i => exact fin _ (index_sim h (hρ x (by simp [Op.operands])) (hρ i (by simp [Op.operands])))
  case lookup t x i ok => exact fin _ (lookup_sim hm h (hρ x (by simp [Op.operands])) (hρ i (by simp [Op.operands])))
  case extract x i =>
    have hx := hρ x (by simp [Op.operands])
    split at h
    · rename_i vs hb
      rw [hb] at hx
      generalize hq : ρ' x = q at hx
      cases hx with
      | tuple _ ys hy =>
        obtain ⟨y, h1, h2⟩ := hy.get h
        have h1' : ys[i]? = some y := by simpa using h1
        exact fin _ ⟨y, by simp [Instr.extract, hq, h1'], h2⟩
    · cases h
  case slice t x lo hi mx =>
    refine fin _ (slice_sim w h (hρ x (by simp [Op.operands])) (VRO.map fun y hy => hρ y ?_) (VRO.map fun y hy => hρ y ?_) (VRO.map fun y hy => hρ y ?_))
    all_goals (simp [Op.operands] at hy ⊢; simp [hy])
  case sliceToArrayPointer arr x =>
    have hx := hρ x (by simp [Op.operands])
    split at h
    · rename_i n e b off sp len cp hu hb
      rw [hb] at hx
      generalize hq : ρ' x = q at hx
      cases hle : (Nat.ble n len && Nat.ble 1 len) with
      | false => simp only [hle, cond_false] at h; cases h
      | true =>
        simp only [hle, cond_true, Option.some.injEq] at h
        rw [Bool.and_eq_true] at hle
        obtain ⟨hle, hzz⟩ := hle
        subst h
        have hlt : ¬ len < n := by have := Nat.le_of_ble_eq_true hle; omega
        cases hx with
        | slice _ _ _ _ _ cap' l hl =>
          exact fin _ ⟨_, by simp [Instr.arrayAt, run_underlying hu, hq, hlt], .ptr b off l hl⟩
        | sdead _ _ _ _ _ cap' a hl =>
          exact fin _ ⟨_, by simp [Instr.arrayAt, run_underlying hu, hq, hlt], .pdead b off none a hl⟩
        | szero => cases hzz
    · cases h
  case typeAssert x xt asserted ok => exact fin _ (assert_sim w h (hρ x (by simp [Op.operands])))
  case call c =>
    obtain ⟨callee, args, argTypes⟩ := c
    cases callee <;> try (simp at h; done)
    rename_i bi
    cases bi <;> try (simp at h; done)
    case len =>
      simp only at h
      split at h
      · rename_i x t hx ht
        obtain ⟨args⟩ := args
        obtain ⟨argTypes⟩ := argTypes
        simp only at hx ht
        subst hx ht
        obtain ⟨v', h1, h2⟩ := len_sim (ty := type) hm h (hρ x (by simp [Op.operands, Call.operands]))
        exact ⟨v', by simp [execOp, resolve, invoke, builtin, h1], h2⟩
      · cases h
    case max =>
      simp only at h
      split at h
      · rename_i x r hx
        obtain ⟨args⟩ := args
        simp only at hx
        subst hx
        obtain ⟨v', h1, h2⟩ := max_sim (P := P) w h (hρ x (by simp [Op.operands, Call.operands])) (VRL.map (ρ' := ρ') fun y hy => hρ y (by simp [Op.operands, Call.operands, hy]))
        exact ⟨v', by simp [execOp, resolve, invoke, builtin, Builtin.max_, h1], h2⟩
      · cases h
    case min =>
      simp only at h
      split at h
      · rename_i x r hx
        obtain ⟨args⟩ := args
        simp only at hx
        subst hx
        obtain ⟨v', h1, h2⟩ := min_sim (P := P) w h (hρ x (by simp [Op.operands, Call.operands])) (VRL.map (ρ' := ρ') fun y hy => hρ y (by simp [Op.operands, Call.operands, hy]))
        exact ⟨v', by simp [execOp, resolve, invoke, builtin, Builtin.min_, h1], h2⟩
      · cases h


theorem qop_pure {g g' : Nat → Option LB} {ρ : Operand → Value} {o : Oper} (h : looks o.op = false) : qop P g ρ o = qop P g' ρ o := by
  obtain ⟨dst, op, type, pos, after, guard⟩ := o
  cases op <;> first
    | rfl
    | (simp [looks] at h)

/-- φ with one block more -/
def ins (φ : Phi) (n : Nat) (l : Loc) : Phi := fun id => if id = n then some (some l) else φ id

theorem ins_same (φ : Phi) (n : Nat) (l : Loc) : ins φ n l n = some (some l) := by
  have _s := SymT.tab
  simp [ins]
theorem ins_other {φ : Phi} {n : Nat} {l : Loc} {id : Nat} (h : id ≠ n) : ins φ n l id = φ id := by
  have _s := SymT.tab
  simp [ins, h]
theorem ins_ext {φ : Phi} {n : Nat} {l : Loc} (h : φ n = none) : Ext φ (ins φ n l) := by
  intro id hid
  by_cases he : id = n
  · subst he; exact absurd h hid
  · exact .inl (ins_other he)

theorem run_newVar (w : World) (t : TypeId) (v : Value) : (newVar t v).run P w = .ok ⟨w.heap.size, 0, none⟩ (w.alloc (.cells v.cells t)) := by
  have _s := SymT.tab
  simp [newVar, newRow]
theorem run_newRow (w : World) (t : TypeId) (c : Array Value) : (newRow t c).run P w = .ok ⟨w.heap.size, 0, none⟩ (w.alloc (.cells c t)) := by
  have _s := SymT.tab
  simp [newRow]

theorem BR.fresh {φ : Phi} {w : World} {c : List Value} {c' : Array Value} {t : TypeId} (hc : VRL φ c c'.toList) :
    BR φ (.cells c) ⟨w.heap.size, 0, c'.size⟩ (w.alloc (.cells c' t)) := by
  have _s := SymT.tab
  refine ⟨c', t, heap_alloc_new _ _, rfl, by have := hc.length; simp at this; show 0 + c.length ≤ c'.size; omega, fun i v hv => ?_⟩
  obtain ⟨v', h1, h2⟩ := hc.get hv
  exact ⟨v', by simpa using h1, h2⟩

theorem lzeros_length (z : List Value) : ∀ n, (lzeros z n).length = n * z.length
  | 0 => by have _s := SymT.tab; have _s := SymT.tab; simp [lzeros]
  | n + 1 => by simp [lzeros, lzeros_length z n, Nat.succ_mul]; omega

theorem lzeros_get (z : List Value) (hz : 1 ≤ z.length) : ∀ (n i : Nat), i < n * z.length → (lzeros z n)[i]? = z[i % z.length]?
  | 0, i, h => by have _s := SymT.tab; simp at h
  | n + 1, i, h => by
    unfold lzeros
    by_cases hi : i < z.length
    · rw [List.getElem?_append_left hi, Nat.mod_eq_of_lt hi]
    · rw [List.getElem?_append_right (by omega), lzeros_get z hz n (i - z.length) (by rw [Nat.add_mul, Nat.one_mul] at h; omega)]
      congr 1
      exact (Nat.mod_eq_sub_mod (by omega)).symm

/-- the zero cells as the model lays them -/
theorem zero_cells (z : Array Value) (hz : 1 ≤ z.size) (n k : Nat) (hk : k = n * z.size) : ((Array.range k).map fun i => z[i % z.size]!).toList = lzeros z.toList n := by
  apply List.ext_getElem?
  intro i
  by_cases hi : i < k
  · have hlt : i % z.size < z.size := Nat.mod_lt _ (by omega)
    rw [lzeros_get z.toList (by simpa using hz) n i (by simp; omega)]
    simp [hi, hlt]
  · rw [List.getElem?_eq_none (by simp; omega), List.getElem?_eq_none (by rw [lzeros_length]; simp; omega)]

theorem VRL.zeros {φ : Phi} {z : Value} (h : ub z = 0) : ∀ n, VRL φ (lzeros z.cells.toList n) (lzeros z.cells.toList n)
  | 0 => by have _s := SymT.tab; exact .nil
  | n + 1 => ((VR.refl 7 z h).cells).append (VRL.zeros h n)

theorem lint_spec {φ : Phi} {v v' : Value} {n : Nat} (h : lint v = some n) (hv : VR φ v v') : ∃ (k : IntKind), v' = .int k (n : Int) ∧ n ≤ 1048576 := by
  have _s := SymT.tab
  cases hv <;> simp only [lint] at h <;> try (cases h; done)
  rename_i kd i
  cases hc : (decide (0 ≤ i) && decide (i ≤ 1048576)) with
  | false => rw [hc] at h; cases h
  | true =>
    rw [hc] at h
    simp only [cond_true, Option.some.injEq] at h
    rw [Bool.and_eq_true, decide_eq_true_eq, decide_eq_true_eq] at hc
    exact ⟨kd, by subst h; congr 1; omega, by omega⟩

theorem wrap_small (n : Nat) (h : n ≤ 1048576) : IntKind.i64.wrap (n : Int) = n := by
  have _s := SymT.tab
  have h1 : ((2 : Int) ^ IntKind.i64.bits) = 18446744073709551616 := by decide
  have h2 : ((2 : Int) ^ (IntKind.i64.bits - 1)) = 9223372036854775808 := by decide
  unfold IntKind.wrap
  simp only [h1, h2]
  rw [Int.emod_eq_of_lt (by omega) (by omega)]
  simp only [IntKind.signed, Bool.true_and, ge_iff_le, decide_eq_true_eq]
  rw [if_neg (by omega)]

/-- what an allocation does: one block at the heap's end -/
theorem asim {φ : Phi} {w : World} {o : Oper} {ρ ρ' : Operand → Value} {v : Value} {b : LB} {n : Nat} (hn : φ n = none) (hρ : ∀ x ∈ o.op.operands.toList, VR φ (ρ x) (ρ' x))
    (h : aop P ρ o n = some (v, b)) : ∃ v' obj l w0, (w0 = w ∨ w0 = w.drew) ∧ (execOp ρ' o).run P w = .ok (.value v') (w0.alloc obj) ∧ l.b = w.heap.size ∧ VR (ins φ n l) v v' ∧ BR (ins φ n l) b l (w0.alloc obj) := by
  obtain ⟨dst, op, type, pos, after, guard⟩ := o
  have fin : ∀ (s : Sem Value), (∃ v' obj l, s.run P w = .ok v' (w.alloc obj) ∧ l.b = w.heap.size ∧ VR (ins φ n l) v v' ∧ BR (ins φ n l) b l (w.alloc obj)) →
      ∃ v' obj l w0, (w0 = w ∨ w0 = w.drew) ∧ (do pure (Next.value (← s)) : Sem Next).run P w = .ok (.value v') (w0.alloc obj) ∧ l.b = w.heap.size ∧ VR (ins φ n l) v v' ∧ BR (ins φ n l) b l (w0.alloc obj) := by
    rintro s ⟨v', obj, l, h1, h2⟩
    exact ⟨v', obj, l, w, .inl rfl, by simp [h1], h2⟩
  have hext : ∀ l, Ext φ (ins φ n l) := fun l => ins_ext hn
  cases op <;> simp only [aop] at h <;> try (cases h; done)
  case alloc e =>
    split at h
    · rename_i i hi
      split at h
      · rename_i z hz
        cases hub : Nat.beq (ub z) 0 with
        | false => simp [hub] at h
        | true =>
          simp only [hub, cond_true, Option.some.injEq, Prod.mk.injEq] at h
          obtain ⟨rfl, rfl⟩ := h
          refine fin _ ⟨.pointer (some ⟨w.heap.size, 0, none⟩), .cells z.cells e, ⟨w.heap.size, 0, z.cells.size⟩, ?_, rfl, ?_, BR.fresh (VR.refl 7 z (Nat.eq_of_beq_eq_true hub)).cells⟩
          · simp [Instr.alloc, run_zeroValue' hi hz, run_newVar]
          · exact .ptr n 0 ⟨w.heap.size, 0, z.cells.size⟩ (ins_same _ _ _)
      · cases h
    · cases h
  case box e x =>
    simp only [Option.some.injEq, Prod.mk.injEq] at h
    obtain ⟨rfl, rfl⟩ := h
    have hx := hρ x (by simp [Op.operands])
    refine fin _ ⟨.pointer (some ⟨w.heap.size, 0, none⟩), .cells (ρ' x).cells e, ⟨w.heap.size, 0, (ρ' x).cells.size⟩, ?_, rfl, ?_, BR.fresh (hx.mono (hext _)).cells⟩
    · simp [Instr.box, run_newVar]
    · exact .ptr n 0 ⟨w.heap.size, 0, _⟩ (ins_same _ _ _)
  case buildSlice t len parts =>
    split at h
    · rename_i e hu
      split at h
      · rename_i ie hie
        split at h
        · rename_i z hz
          cases hc : (Nat.beq (ub z) 0 && Nat.ble (len * ie.size) 16777216 && Nat.beq z.cells.toList.length ie.size && Nat.ble 1 ie.size) with
          | false => simp only [hc, cond_false] at h; cases h
          | true =>
            simp only [hc, cond_true, Option.map_eq_some_iff, Prod.mk.injEq] at h
            obtain ⟨c, hc1, rfl, rfl⟩ := h
            simp only [Bool.and_eq_true] at hc
            obtain ⟨⟨⟨k1, k2⟩, k3⟩, k4⟩ := hc
            have k1 := Nat.eq_of_beq_eq_true k1
            have k2 := Nat.le_of_ble_eq_true k2
            have k3 := Nat.eq_of_beq_eq_true k3
            have k4 := Nat.le_of_ble_eq_true k4
            have k3' : z.cells.size = ie.size := by simpa using k3
            have hz0 : ((Array.range (len * ie.size)).map fun i => z.cells[i % z.cells.size]!).toList = lzeros z.cells.toList len := zero_cells z.cells (by omega) len _ (by rw [k3'])
            obtain ⟨c', h1, h2⟩ := fill_sim (φ := φ) (c' := (Array.range (len * ie.size)).map fun i => z.cells[i % z.cells.size]!)
              (VRP.map (ρ := ρ) (ρ' := ρ') (xs := parts.toList) fun p hp => hρ p.2 (by
                simp only [Op.operands, List.toList_toArray]
                exact List.mem_map_of_mem hp)) (by rw [hz0]; exact VRL.zeros k1 len) hc1
            refine fin _ ⟨.slice (some ⟨w.heap.size, 0, none⟩) len len, .cells c' e, ⟨w.heap.size, 0, c'.size⟩, ?_, rfl, ?_, BR.fresh (h2.mono (hext _))⟩
            · have h1' : Instr.fill (fun i => some (i * ie.size, ie.size)) ((Array.range (len * ie.size)).map fun i => z.cells[i % z.cells.size]!) (parts.map fun p => (p.1, ρ' p.2)).toList = some c' := by simpa using h1
              simp only [Instr.buildSlice, Sem.run_bind, run_underlying hu, Result.andThen_ok, run_sizeOf' hie]
              rw [if_neg (by omega)]
              by_cases hne : len * ie.size = 0
              · rw [if_pos hne]
                rw [hne] at h1' ⊢
                have hr : ∀ g : Nat → Value, (Array.range 0).map g = #[] := fun g => by simp
                rw [hr] at h1'
                simp only [Sem.run_bind, Result.andThen_ok, Sem.run_pure, hr]
                simp only [h1', run_newRow, Sem.run_bind, Result.andThen_ok, Sem.run_pure]
              · rw [if_neg hne]
                simp only [Sem.run_bind, run_zeroValue' hie hz, Result.andThen_ok, Sem.run_pure]
                simp only [h1', run_newRow, Sem.run_bind, Result.andThen_ok, Sem.run_pure]
            · exact .slice n 0 none len len len ⟨w.heap.size, 0, _⟩ (ins_same _ _ _) (Nat.le_refl _) (Nat.le_refl _) (fun _ => rfl) (fun e' he' => by cases he')
        · cases h
      · cases h
    · cases h
  case convert src dst' x =>
    split at h
    · rename_i e s hs hd hx0
      split at h
      · rename_i he
        simp only [Option.some.injEq, Prod.mk.injEq] at h
        obtain ⟨rfl, rfl⟩ := h
        have hx := hρ x (by simp [Op.operands])
        rw [hx0] at hx
        generalize hq : ρ' x = q at hx
        cases hx
        have hle : s.size ≤ grownCap w s.size 0 e := grownCap_ge w s.size 0 e
        have hsz : (bytesRow s (grownCap w s.size 0 e)).size = grownCap w s.size 0 e := by simp [bytesRow]; omega
        refine ⟨.slice (some ⟨w.heap.size, 0, none⟩) s.size (grownCap w s.size 0 e), .cells (bytesRow s (grownCap w s.size 0 e)) e ((bytesRow s (grownCap w s.size 0 e)).size, (bytesRow s (grownCap w s.size 0 e)).size + 1), ⟨w.heap.size, 0, grownCap w s.size 0 e⟩, w.drew, .inr rfl, ?_, rfl, ?_, ?_⟩
        · have := run_bytes_of_string (P := P) w src dst' e s hs hd he
          simp only [execOp, hq, Sem.run_bind, this, Result.andThen_ok, Sem.run_pure]
        · exact .slice n 0 (some 1) _ _ _ ⟨w.heap.size, 0, _⟩ (ins_same _ _ _) (Nat.le_refl _) (by simpa using hle) (fun h => by cases h) (fun e' he' => by cases he'; simp)
        · refine ⟨bytesRow s (grownCap w s.size 0 e), e, _, heap_alloc_new w.drew _, hsz, by simpa using hle, fun i v hv => ?_⟩
          have hi : i < s.data.toList.length := by
            rcases Nat.lt_or_ge i s.data.toList.length with h' | h'
            · exact h'
            · rw [List.getElem?_eq_none (by simpa using h')] at hv; cases hv
          refine ⟨v, ?_, ?_⟩
          · rw [← hv]
            simp only [bytesRow, Nat.zero_add]
            rw [Array.getElem?_append_left (by simpa using hi)]
            simp
          · rw [List.getElem?_map] at hv
            simp only [Option.map_eq_some_iff] at hv
            obtain ⟨b, _, rfl⟩ := hv
            exact .int _ _
      · cases h
    · cases h
  case makeSlice t l c =>
    split at h
    · rename_i e hu
      split at h
      · rename_i ie l0 c0 hie hl hc0
        split at h
        · rename_i z hz
          cases hc : (Nat.beq (ub z) 0 && Nat.ble l0 c0 && Nat.beq z.cells.toList.length ie.size && Nat.ble 1 ie.size && Nat.ble (ie.bytes * c0) 281474976710656) with
          | false => simp only [hc, cond_false] at h; cases h
          | true =>
            simp only [hc, cond_true, Option.some.injEq, Prod.mk.injEq] at h
            obtain ⟨rfl, rfl⟩ := h
            simp only [Bool.and_eq_true] at hc
            obtain ⟨⟨⟨⟨k1, k2⟩, k3⟩, k4⟩, k5⟩ := hc
            have k1 := Nat.eq_of_beq_eq_true k1
            have k2 := Nat.le_of_ble_eq_true k2
            have k3 := Nat.eq_of_beq_eq_true k3
            have k4 := Nat.le_of_ble_eq_true k4
            have k5 := Nat.le_of_ble_eq_true k5
            have k3' : z.cells.size = ie.size := by simpa using k3
            obtain ⟨kl, hl', hlb⟩ := lint_spec hl (hρ l (by simp [Op.operands]))
            obtain ⟨kc, hc', hcb⟩ := lint_spec hc0 (hρ c (by simp [Op.operands]))
            have e1 := wrap_small l0 hlb
            have e2 := wrap_small c0 hcb
            have hbig : ¬ ((ie.bytes : Int) * (c0 : Int) > 2 ^ 48) := by
              have : ((ie.bytes * c0 : Nat) : Int) ≤ 281474976710656 := by omega
              have e48 : (2 : Int) ^ 48 = 281474976710656 := by decide
              rw [e48]; push_cast at this; omega
            have hz0 : ((Array.range (c0 * ie.size)).map fun i => z.cells[i % z.cells.size]!).toList = lzeros z.cells.toList c0 := zero_cells z.cells (by omega) c0 _ (by rw [k3'])
            by_cases hc00 : c0 = 0
            · subst hc00
              refine fin _ ⟨.slice (some ⟨w.heap.size, 0, none⟩) l0 0, .cells #[] e, ⟨w.heap.size, 0, 0⟩, ?_, rfl, ?_, BR.fresh (c' := #[]) .nil⟩
              · simp only [Instr.makeSlice, hl', hc', Sem.run_bind, run_underlying hu, Result.andThen_ok, asInt, asIntOf, Sem.run_pure, run_typeInfo' hie, e1, e2]
                have : l0 = 0 := by omega
                subst this
                simp [run_sizeOf' hie, run_newRow]
                congr 2
                apply Array.ext'
                simp
              · exact .slice n 0 none l0 0 0 ⟨w.heap.size, 0, _⟩ (ins_same _ _ _) k2 (Nat.le_refl _) (fun _ => rfl) (fun e' he' => by cases he')
            · have hne : ¬ c0 * ie.size = 0 := by
                have : 1 * 1 ≤ c0 * ie.size := Nat.mul_le_mul (by omega) k4
                omega
              refine fin _ ⟨.slice (some ⟨w.heap.size, 0, none⟩) l0 c0, .cells ((Array.range (c0 * ie.size)).map fun i => z.cells[i % z.cells.size]!) e, ⟨w.heap.size, 0, _⟩, ?_, rfl, ?_,
                BR.fresh (by rw [hz0]; exact VRL.zeros k1 c0)⟩
              · simp only [Instr.makeSlice, hl', hc', Sem.run_bind, run_underlying hu, Result.andThen_ok, asInt, asIntOf, Sem.run_pure, run_typeInfo' hie, e1, e2]
                have t1 : (decide ((c0 : Int) < 0) || decide ((ie.bytes : Int) * (c0 : Int) > 2 ^ 48)) = false := by
                  rw [decide_eq_false hbig, decide_eq_false (by omega)]; rfl
                have t2 : decide ((l0 : Int) < 0) = false := decide_eq_false (by omega)
                have t3 : decide ((l0 : Int) > (c0 : Int)) = false := decide_eq_false (by omega)
                simp only [t1, t2, t3, Bool.or_self, Bool.false_eq_true, if_false]
                simp only [run_askRoom, Result.andThen_ok, Int.toNat_natCast, Sem.run_bind, run_sizeOf' hie, if_neg hne, run_zeroValue' hie hz, Sem.run_pure, run_newRow]
              · exact .slice n 0 none l0 c0 c0 ⟨w.heap.size, 0, _⟩ (ins_same _ _ _) k2 (Nat.le_refl _) (fun _ => rfl) (fun e' he' => by cases he')
        · cases h
      · cases h
    · cases h
  case makeMap t r =>
    cases r with
    | some r => simp at h
    | none =>
      simp only [Option.some.injEq, Prod.mk.injEq] at h
      obtain ⟨rfl, rfl⟩ := h
      refine fin _ ⟨.map (some w.heap.size), .map #[] 0, ⟨w.heap.size, 0, 0⟩, ?_, rfl, .map n ⟨w.heap.size, 0, 0⟩ (ins_same _ _ _), ⟨#[], heap_alloc_new _ _, rfl, fun i e he => by simp at he⟩⟩
      simp [Instr.makeMap]
end
end Go.Eng
