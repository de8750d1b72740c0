/- The engine's quiet operations are those of the model. -/
import Derived.Test.YtopofdjgfbimnaaGreatEngC
import Derived.ChangeKeysEq
namespace Go.Eng
variable [SymV] [SymT]
section
variable {P : Program}

def MRp (φ : Phi) (G : Nat → Option LB) (w : World) : Prop :=
  ∀ id b, G id = some b → (∀ l, φ id = some (some l) → BR φ b l w) ∧ (φ id = some none → b = .dead)

theorem MR.part {φ : Phi} {G : Nat → Option LB} {w : World} (h : MR φ G w) : MRp φ G w := by
  have _s := SymT.tab
  have _s := SymT.tab
  intro id b hb
  refine ⟨fun l hl => ?_, fun hd => ?_⟩
  · obtain ⟨b', h1, h2⟩ := h.live id l hl
    rw [hb] at h1; cases h1; exact h2
  · have := h.dead id hd
    rw [hb] at this; cases this; rfl

theorem run_typeInfo' {t : TypeId} {i : TypeInfo} (h : P.info? t = some i) (w : World) : (typeInfo t).run P w = .ok i w := by
  have _s := SymT.tab
  simp [typeInfo, h]
theorem run_sizeOf' {t : TypeId} {i : TypeInfo} (h : P.info? t = some i) (w : World) : (sizeOf t).run P w = .ok i.size w := by
  have _s := SymT.tab
  simp [sizeOf, typeInfo, h]
theorem run_zeroValue' {t : TypeId} {i : TypeInfo} {z : Value} (h : P.info? t = some i) (hz : i.zero = some z) (w : World) : (zeroValue t).run P w = .ok z w := by
  have _s := SymT.tab
  simp [zeroValue, typeInfo, h, hz]
theorem run_isAgg' {t : TypeId} {d : TypeDesc} (h : P.underlying t = some d) (w : World) : (isAgg t).run P w = .ok (isAggD d) w := by
  have _s := SymT.tab
  unfold isAgg
  rw [Sem.run_bind, run_underlying h w]
  cases d <;> rfl

theorem extract_list (c : Array Value) (a n : Nat) : (c.extract a (a + n)).toList = (c.toList.drop a).take n := by
  have _s := SymT.tab
  simp [List.extract_eq_take_drop]

theorem part_sim {φ : Phi} {t : TypeId} {c : List Value} {c' : Array Value} {off : Nat} {v : Value} (hc : VRL φ c c'.toList) (h : lpart P t c off = some v) (w : World) :
    ∃ v', (part t c' off).run P w = .ok v' w ∧ VR φ v v' := by
  unfold lpart at h
  split at h
  · rename_i d i hd hi
    unfold part
    rw [Sem.run_bind, run_isAgg' hd]
    cases ha : isAggD d with
    | true =>
      rw [ha] at h
      simp only [cond_true, Option.some.injEq] at h
      subst h
      refine ⟨.agg (c'.extract off (off + i.size)), by simp [run_sizeOf' hi], .agg _ _ ?_⟩
      rw [extract_list]
      exact (hc.drop off).take i.size
    | false =>
      rw [ha] at h
      simp only [cond_false] at h
      obtain ⟨v', h1, h2⟩ := hc.get h
      refine ⟨v', ?_, h2⟩
      have : c'[off]? = some v' := by simpa using h1
      simp [this]
  · cases h

theorem addr_add (b off n : Nat) : (⟨b, off, none⟩ : Addr).add n = ⟨b, off + n, none⟩ := by
  have _s := SymT.tab
  unfold Addr.add; split
  · rename_i h; subst h; rfl
  · rfl

/-- n cells read out of a block -/
theorem row_sim {φ : Phi} {c vs : List Value} {l : Loc} {w : World} {off n : Nat} (hb : BRr φ c l w) (h : lrow c off n = some vs) :
    ∃ vs', (∀ W : World, W.heap = w.heap → (loadCells ⟨l.b, l.sh + off, none⟩ n).run P W = .ok vs' W) ∧ VRL φ vs vs'.toList ∧ vs.length = n := by
  obtain ⟨c', e, fz, h1, h2, h3, h4⟩ := hb
  unfold lrow at h
  cases hl : Nat.beq ((c.drop off).take n).length n with
  | false => simp only [hl, cond_false] at h; cases h
  | true =>
    simp only [hl, cond_true, Option.some.injEq] at h
    have hlen : ((c.drop off).take n).length = n := Nat.eq_of_beq_eq_true hl
    subst h
    have hoff : n = 0 ∨ off + n ≤ c.length := by
      simp at hlen; omega
    have hl' : ((c'.toList.drop (l.sh + off)).take n).length = n := by
      have : c'.toList.length = l.sz := by simpa using h2
      simp; omega
    have hrun := fun (W : World) (hW : W.heap = w.heap) => run_loadCells_list (P := P) W ⟨l.b, l.sh + off, none⟩ ((c'.toList.drop (l.sh + off)).take n) (fun j v hv => by
      rw [addr_add, cell_of_row W l.b _ c' e fz (by rw [hW]; exact h1)]
      have hj : j < n := by
        rcases Nat.lt_or_ge j n with h | h
        · exact h
        · rw [List.getElem?_eq_none (by omega)] at hv; cases hv
      rw [List.getElem?_take_of_lt hj, List.getElem?_drop] at hv
      simpa using hv)
    rw [hl'] at hrun
    refine ⟨_, hrun, ?_, hlen⟩
    refine VRL.of_get (by show _ = ((c'.toList.drop (l.sh + off)).take n).length; omega) fun i x hx => ?_
    have hi : i < n := by
      rcases Nat.lt_or_ge i n with h | h
      · exact h
      · rw [List.getElem?_eq_none (by omega)] at hx; cases hx
    rw [List.getElem?_take_of_lt hi, List.getElem?_drop] at hx
    obtain ⟨v', h5, h6⟩ := h4 _ x hx
    refine ⟨v', ?_, h6⟩
    show ((c'.toList.drop (l.sh + off)).take n)[i]? = some v'
    rw [List.getElem?_take_of_lt hi, List.getElem?_drop, Nat.add_assoc]
    simpa using h5

theorem row_any {φ : Phi} {c vs : List Value} {l : Loc} {w : World} {off n o : Nat} (hb : BRr φ c l w) (h : lrow c off n = some vs) (ho : o = l.sh + off ∨ n = 0) :
    ∃ vs', (∀ W : World, W.heap = w.heap → (loadCells ⟨l.b, o, none⟩ n).run P W = .ok vs' W) ∧ VRL φ vs vs'.toList ∧ vs.length = n := by
  rcases ho with rfl | rfl
  · exact row_sim hb h
  · have : vs = [] := by
      unfold lrow at h
      simp at h
      exact h
    subst this
    exact ⟨#[], fun W _ => rfl, .nil, rfl⟩

theorem load_sim {φ : Phi} {c : List Value} {l : Loc} {w : World} {t : TypeId} {off : Nat} {v : Value} (hb : BRr φ c l w) (h : lload P t c off = some v) :
    ∃ v', (loadVar t ⟨l.b, l.sh + off, none⟩).run P w = .ok v' w ∧ VR φ v v' := by
  unfold lload at h
  split at h
  · rename_i d i hd hi
    unfold loadVar
    rw [Sem.run_bind, run_isAgg' hd]
    cases ha : isAggD d with
    | true =>
      simp only [ha, cond_true] at h
      have h' : ∃ vs, lrow c off i.size = some vs ∧ v = .agg ⟨vs⟩ := by
        unfold lrow
        cases hl : Nat.beq ((c.drop off).take i.size).length i.size with
        | false => simp only [hl, cond_false] at h; cases h
        | true =>
          simp only [hl, cond_true, Option.some.injEq] at h
          exact ⟨_, by simp only [hl, cond_true], h.symm⟩
      obtain ⟨vs, h1, rfl⟩ := h'
      obtain ⟨vs', h2, h3, _⟩ := row_sim (P := P) hb h1
      exact ⟨.agg vs', by simp [run_sizeOf' hi, h2 w rfl], .agg _ _ h3⟩
    | false =>
      simp only [ha, cond_false] at h
      obtain ⟨c', e, fz, h1, h2, h3, h4⟩ := hb
      obtain ⟨v', h5, h6⟩ := h4 _ v h
      refine ⟨v', ?_, h6⟩
      have := cell_of_row w l.b (l.sh + off) c' e fz h1
      simp [this, h5]
  · cases h

theorem pureSem_run {α : Type} {s : Sem α} {v : α} (h : pureSem s = some v) (w : World) : s.run P w = .ok v w := by
  have _s := SymT.tab
  cases s <;> simp [pureSem] at h
  subst h; rfl

/-- equality -/
theorem eqFields_sim {φ : Phi} {d : Nat} {eq : TypeId → Value → Value → Option Bool} {xs ys : List Value} {xs' ys' : Array Value} (w : World)
    (heq : ∀ t x y x' y' b, eq t x y = some b → VR φ x x' → VR φ y y' → (Op.equalIn d t x' y').run P w = .ok b w)
    (hx : VRL φ xs xs'.toList) (hy : VRL φ ys ys'.toList) : ∀ (fs : List Field) (b : Bool), leqF eq P xs ys fs = some b → (Op.eqFields d xs' ys' fs).run P w = .ok b w := by
  intro fs
  induction fs with
  | nil => intro b h; simp [leqF] at h; subst h; simp [Op.eqFields]
  | cons f fs ih =>
    intro b h
    unfold leqF at h
    by_cases hn : f.name ≠ "_"
    · rw [if_pos hn] at h
      split at h
      · rename_i a c ha hc
        obtain ⟨a', h1, h2⟩ := part_sim hx ha w
        obtain ⟨c', h3, h4⟩ := part_sim hy hc w
        simp only [Op.eqFields, if_pos hn, Sem.run_bind, h1, Result.andThen_ok, h3]
        split at h
        · rename_i he
          rw [heq _ _ _ _ _ _ he h2 h4]
          simp only [Result.andThen_ok, Bool.not_true, Bool.false_eq_true, if_false]
          exact ih b h
        · rename_i he
          simp at h; subst h
          rw [heq _ _ _ _ _ _ he h2 h4]
          simp
        · cases h
      · cases h
    · rw [if_neg hn] at h
      simp only [Op.eqFields, if_neg hn]
      exact ih b h

/-- a scalar that is not known stands for a number -/
theorem VR.num {φ : Phi} {x y : Value} (hs : isSc x = true) (h : VR φ x y) : ∃ k i, y = .int k i ∧ Eng.den SymV.val x = .int k i := by
  have _s := SymT.tab
  have hy := h.den hs
  cases x <;> first | (simp [isSc] at hs; done) | skip
  · exact ⟨_, _, hy, rfl⟩
  · rename_i k n m
    obtain ⟨j, i, hi⟩ := SymV.int n
    exact ⟨j, i, hy.trans hi, hi⟩

theorem symEq_sim {φ : Phi} {x y x' y' : Value} {b : Bool} {t : TypeId} {kk : IntKind} (w : World) (n : Nat) (hu : P.underlying t = some (.int kk)) (h : symEq x y = some b) (hx : VR φ x x') (hy : VR φ y y') :
    (Op.equalIn (n + 1) t x' y').run P w = .ok b w := by
  unfold symEq at h
  cases hs : (isSym x || isSym y) with
  | false => rw [hs] at h; cases h
  | true =>
    rw [hs] at h
    simp only [cond_true] at h
    split at h
    · rename_i b' hl
      simp only [Option.some.injEq] at h
      subst h
      obtain ⟨g1, g2, _, g4⟩ := slook_spec SymT.ok hl
      obtain ⟨k1, a1, rfl, d1⟩ := hx.num g1
      obtain ⟨k2, a2, rfl, d2⟩ := hy.num g2
      have g := g4 t
      rw [d1, d2] at g
      have g' : pureSem (if k1 ≠ k2 then stuck "BinOp: operands of different kinds" else Op.intCmp .eql a1 a2) = some (.bool b') := g
      by_cases hk : k1 = k2
      · subst hk
        rw [if_neg (by simp)] at g'
        simp [Op.intCmp, pureSem, Pure.pure] at g'
        subst g'
        simp [Op.equalIn, run_underlying hu]
      · rw [if_pos hk] at g'
        simp [stuck, pureSem] at g'
    · cases h

theorem eqItems_sim {φ : Phi} {d c : Nat} {e : TypeId} {eq : TypeId → Value → Value → Option Bool} {xs ys : List Value} {xs' ys' : Array Value} (w : World)
    (heq : ∀ t x y x' y' b, eq t x y = some b → VR φ x x' → VR φ y y' → (Op.equalIn d t x' y').run P w = .ok b w)
    (hx : VRL φ xs xs'.toList) (hy : VRL φ ys ys'.toList) : ∀ (is : List Nat) (b : Bool), leqA eq P e c xs ys is = some b → (Op.eqItems d e c xs' ys' is).run P w = .ok b w := by
  intro is
  induction is with
  | nil => intro b h; simp [leqA] at h; subst h; simp [Op.eqItems]
  | cons i is ih =>
    intro b h
    unfold leqA at h
    split at h
    · rename_i a c1 ha hc
      obtain ⟨a', h1, h2⟩ := part_sim hx ha w
      obtain ⟨c', h3, h4⟩ := part_sim hy hc w
      simp only [Op.eqItems, Sem.run_bind, h1, Result.andThen_ok, h3]
      split at h
      · rename_i he
        rw [heq _ _ _ _ _ _ he h2 h4]
        simp only [Result.andThen_ok, Bool.not_true, Bool.false_eq_true, if_false]
        exact ih b h
      · rename_i he
        simp at h; subst h
        rw [heq _ _ _ _ _ _ he h2 h4]
        simp
      · cases h
    · cases h

set_option maxHeartbeats 2000000 in
theorem leq_sim {φ : Phi} (w : World) : ∀ (d k : Nat) (t : TypeId) (x y x' y' : Value) (b : Bool), leq P d t x y = some b → VR φ x x' → VR φ y y' →
    (Op.equalIn (k + d) t x' y').run P w = .ok b w := by
  intro d
  induction d with
  | zero => intro k t x y x' y' b h; simp [leq] at h
  | succ d ih =>
    intro k t x y x' y' b h hx hy
    unfold leq at h
    rw [show k + (d + 1) = (k + d) + 1 by omega]
    split at h <;> rename_i hu <;> first
      | (cases hx <;> cases hy <;> (simp at h; subst h; simp [Op.equalIn, run_underlying hu]); done)
      | skip
    · rename_i k1 k1' a1 b1
      cases hx; cases hy
      split at h
      · rename_i hk; subst hk; simp at h; subst h; simp [Op.equalIn, run_underlying hu]
      · cases h
    · exact symEq_sim w (k + d) (by assumption) h hx hy
    · cases hx; cases hy; simp at h; subst h
      rename_i a1 b1
      simp [Op.equalIn, run_underlying hu, beq_toListBytes, ByteArray.toList_eq]
    · rename_i fs xs0 ys0
      cases hs : P.stoodInHeld t with
      | true => simp [hs] at h
      | false =>
        simp only [hs, cond_false] at h
        cases hx with | agg xs xs' hxs => ?_
        cases hy with | agg ys ys' hys => ?_
        have hf : P.underlying t = some (.struct (P.fieldsOf t)) := by simp [Program.fieldsOf, hu]
        have hf' : (P.fieldsOf t) = fs := by simp [Program.fieldsOf, hu]
        rw [run_equalIn_struct w (k + d) t xs' ys' hf hs, hf']
        exact eqFields_sim w (fun t x y x' y' b hq h1 h2 => ih k t x y x' y' b hq h1 h2) hxs hys _ b h
    · rename_i n e xs0 ys0
      split at h
      · rename_i i hi
        cases hx with | agg xs xs' hxs => ?_
        cases hy with | agg ys ys' hys => ?_
        rw [run_equalIn_array w (k + d) xs' ys' hu hi]
        have hc : P.cellsOf e = i.size := by simp [Program.cellsOf, hi]
        rw [hc]
        exact eqItems_sim w (fun t x y x' y' b hq h1 h2 => ih k t x y x' y' b hq h1 h2) hxs hys _ b h
      · cases h
    · cases h

theorem guard_sim {φ : Phi} {op : BinOp} {t : TypeId} {xo yo : Operand} {x y x' y' : Value} (w : World) (hsx : isSym x = false) (hsy : isSym y = false) (h : lguard P t (isConst xo || isConst yo) x y = true)
    (hx : VR φ x x') (hy : VR φ y y') : (eqGuard op t xo yo x' y').run P w = .ok () w := by
  have _s := SymT.tab
  by_cases hop : op = .eql ∨ op = .neq
  · cases hx <;> cases hy <;> first
      | (rcases hop with rfl | rfl <;> rfl)
      | (exfalso; simp [isSym] at hsx; done)
      | (exfalso; simp [isSym] at hsy; done)
      | skip
    · simp only [lguard] at h
      rcases hop with rfl | rfl <;> cases xo <;> cases yo <;> simp [isConst] at h <;> simp [eqGuard]
    · simp only [lguard, Bool.not_eq_true'] at h
      exact run_eqGuard_agg w op t xo yo _ _ h
  · have : ∀ a b, eqGuard op t xo yo a b = pure () := by
      intro a b
      cases op <;> first | rfl | (simp at hop)
    rw [this]; rfl

theorem bin_int (op : BinOp) (t : TypeId) (xo yo : Operand) (k k' : IntKind) (a b : Int) : eqGuard op t xo yo (.int k a) (.int k' b) = pure () := by
  have _s := SymT.tab
  cases op <;> rfl
theorem bin_str (op : BinOp) (t : TypeId) (xo yo : Operand) (a b : ByteArray) : eqGuard op t xo yo (.string a) (.string b) = pure () := by
  have _s := SymT.tab
  cases op <;> rfl

theorem append_bytes (x y : ByteArray) : x ++ y = ⟨⟨x.data.toList ++ y.data.toList⟩⟩ := by
  have _s := SymT.tab
  apply ByteArray.ext
  simp [ByteArray.data_append]

end
end Go.Eng
