/- The engine's effects are those of the model: memory. -/
import Derived.Test.YtopofdjgfbimnaaGreatEngG
namespace Go.Eng
variable [SymV] [SymT]
section
variable {P : Program}

theorem setRow_self (w : World) (g : Nat) (cur : Array Value) (t : TypeId) (fr : Nat × Nat) (hg : w.heap[g]? = some (.cells cur t fr)) : w.setRow g cur = w := by
  have _s := SymT.tab
  have hv : ∀ h : g < w.heap.size, w.heap[g] = .cells cur t fr := fun _ => (Array.getElem?_eq_some_iff.1 hg).2
  unfold World.setRow
  cases w with
  | mk heap tape drawn os output =>
    congr 1
    apply Array.ext
    · simp
    · intro k h1 h2
      simp only [Array.getElem_modify]
      split
      · rename_i hk; subst hk; have := hv h2; simp at this; simp [this]
      · rfl

theorem run_storeCells_at (g off : Nat) (t : TypeId) : ∀ (vs : List Value) (i : Nat) (cur : Array Value) (w : World), w.heap[g]? = some (.cells cur t (0, 0)) → off + i + vs.length ≤ cur.size → (∀ v ∈ vs, v.oneCell' = true) →
    (storeCells ⟨g, off, none⟩ vs i).run P w = .ok () (w.setRow g ⟨splice cur.toList (off + i) vs⟩)
  | [], i, cur, w, hg, _, _ => by
    have : splice cur.toList (off + i) [] = cur.toList := by simp [splice]
    rw [this]
    show Result.ok () w = _
    rw [show (⟨cur.toList⟩ : Array Value) = cur from rfl, setRow_self w g cur t _ hg]
  | v :: rest, i, cur, w, hg, hl, h1 => by
    have hi : off + i < cur.size := by simp at hl; omega
    have hcell : w.cell? ⟨g, off + i, none⟩ = some cur[off + i] := by simp [World.cell?, hg, hi]
    have hfro : w.frozen? ⟨g, off + i, none⟩ = false := by simp [World.frozen?, hg]
    have hst : (store ((⟨g, off, none⟩ : Addr).add i) v).run P w = .ok () (w.setRow g (cur.setIfInBounds (off + i) v)) := by
      rw [addr_add, run_store P w _ v _ (h1 v (by simp)), hcell]
      simp [hfro, setCell_eq_setRow w g (off + i) cur t (0, 0) v hg]
    have ih := run_storeCells_at g off t rest (i + 1) (cur.setIfInBounds (off + i) v) (w.setRow g (cur.setIfInBounds (off + i) v)) (setRow_heap w g cur _ t _ hg) (by simp at hl ⊢; omega) (fun x hx => h1 x (by simp [hx]))
    simp only [storeCells, Sem.run_bind, hst, Result.andThen_ok, ih, setRow_setRow]
    have key : splice (cur.setIfInBounds (off + i) v).toList (off + (i + 1)) rest = splice cur.toList (off + i) (v :: rest) := by
      simp only [List.length_cons] at hl
      apply List.ext_getElem?
      intro k
      rw [splice_get _ _ _ (by simp; omega), splice_get _ _ _ (by simp; omega)]
      simp only [Array.toList_setIfInBounds, List.length_cons]
      by_cases hk : k = off + i
      · subst hk
        rw [if_neg (by omega), if_pos (by omega), List.getElem?_set_self (by simp; omega)]
        simp
      · by_cases h2 : off + (i + 1) ≤ k ∧ k < off + (i + 1) + rest.length
        · rw [if_pos h2, if_pos (by omega), show k - (off + i) = (k - (off + (i + 1))) + 1 by omega]
          simp
        · rw [if_neg h2, if_neg (by omega), List.getElem?_set_ne (by omega)]
    rw [key]

theorem mk_get (x : List Value) (i : Nat) : (⟨x⟩ : Array Value)[i]? = x[i]? := by
  have _s := SymT.tab
  simp

/-- a block's content replaced in place -/
theorem MR.replace {φ : Phi} {G G' : Nat → Option LB} {w w' : World} {b : Nat} {l : Loc} {B : LB} (hm : MR φ G w) (hl : φ b = some (some l)) (hG : G' b = some B) (hGo : ∀ j, j ≠ b → G' j = G j)
    (hB : BR φ B l w') (hw : ∀ k, k ≠ l.b → w'.heap[k]? = w.heap[k]?) : MR φ G' w' := by
  have _s := SymT.tab
  have _s := SymT.tab
  refine ⟨fun id l' hl' => ?_, fun id hd => ?_, hm.inj⟩
  · by_cases he : id = b
    · subst he
      rw [hl] at hl'; cases hl'
      exact ⟨B, hG, hB⟩
    · obtain ⟨b', h1, h2⟩ := hm.live id l' hl'
      refine ⟨b', by rw [hGo id he]; exact h1, h2.mono (Ext.refl φ) (hw _ fun h => he (hm.inj id b l' l hl' hl h))⟩
  · have : id ≠ b := fun he => by subst he; rw [hl] at hd; cases hd
    rw [hGo id this]; exact hm.dead id hd

theorem Sim.inPlace {n : Nat} {φ : Phi} {w w' : World} {b : Nat} {l : Loc} (hl : φ b = some (some l)) (h1 : w'.os = w.os) (h2 : w'.tape = w.tape) (h3 : w'.output = w.output)
    (h4 : w'.heap.size = w.heap.size) (hw : ∀ k, k ≠ l.b → w'.heap[k]? = w.heap[k]?) : Sim n φ φ w w' := by
  have _s := SymT.tab
  exact
  ⟨Ext.refl φ, fun id l h => .inl ⟨id, l, h, rfl⟩, fun _ _ h => h, ⟨h1, h2, h3, by omega, fun k _ hk => hw k fun he => hk b l hl he.symm⟩⟩

/-- a new block -/
theorem MR.insert {φ : Phi} {G G' : Nat → Option LB} {w w' : World} {n : Nat} {l : Loc} {B : LB} (hm : MR φ G w) (hn : φ n = none) (hfresh : ∀ id l', φ id = some (some l') → l'.b ≠ l.b)
    (hG : G' n = some B) (hGo : ∀ j, j ≠ n → φ j ≠ none → G' j = G j) (hw : ∀ id l', φ id = some (some l') → w'.heap[l'.b]? = w.heap[l'.b]?) (hB : BR (ins φ n l) B l w') : MR (ins φ n l) G' w' := by
  have he := ins_ext (l := l) hn
  refine ⟨fun id l' hl' => ?_, fun id hd => ?_, fun id jd l1 l2 h1 h2 h3 => ?_⟩
  · by_cases hid : id = n
    · subst hid; rw [ins_same] at hl'; cases hl'; exact ⟨B, hG, hB⟩
    · rw [ins_other hid] at hl'
      obtain ⟨b', g1, g2⟩ := hm.live id l' hl'
      exact ⟨b', by rw [hGo id hid (by rw [hl']; simp)]; exact g1, g2.mono he (hw id l' hl')⟩
  · by_cases hid : id = n
    · subst hid; rw [ins_same] at hd; cases hd
    · rw [ins_other hid] at hd
      rw [hGo id hid (by rw [hd]; simp)]; exact hm.dead id hd
  · by_cases hid : id = n
    · by_cases hjd : jd = n
      · rw [hid, hjd]
      · subst hid; rw [ins_same] at h1; cases h1
        rw [ins_other hjd] at h2
        exact absurd h3.symm (hfresh jd l2 h2)
    · by_cases hjd : jd = n
      · subst hjd; rw [ins_same] at h2; cases h2
        rw [ins_other hid] at h1
        exact absurd h3 (hfresh id l1 h1)
      · rw [ins_other hid] at h1; rw [ins_other hjd] at h2
        exact hm.inj id jd l1 l2 h1 h2 h3

theorem MR.range {φ : Phi} {G : Nat → Option LB} {w : World} (hm : MR φ G w) {id : Nat} {l : Loc} (h : φ id = some (some l)) : l.b < w.heap.size := by
  have _s := SymT.tab
  obtain ⟨b, _, h2⟩ := hm.live id l h
  exact h2.lt

theorem Bd.none {φ : Phi} {n id : Nat} (h : Bd φ n) (hid : n ≤ id) : φ id = none := by
  have _s := SymT.tab
  cases he : φ id with
  | none => rfl
  | some x => have := h id (by rw [he]; simp); omega

theorem Bd.ins {φ : Phi} {n : Nat} {l : Loc} (h : Bd φ n) : Bd (ins φ n l) (n + 1) := by
  intro id hid
  by_cases he : id = n
  · omega
  · rw [ins_other he] at hid; have := h id hid; omega

theorem heap_alloc_lt (w : World) (o : Obj) (k : Nat) (h : k < w.heap.size) : (w.alloc o).heap[k]? = w.heap[k]? := by
  have _s := SymT.tab
  exact heap_alloc_old w o k h

/-- a block at the heap's end -/
theorem alloc_world {φ : Phi} {m m' : LMem} {w w0 : World} {B : LB} {l : Loc} {obj : Obj} (hw : WF m) (hm : MR φ m.get w) (hb : Bd φ m.next) (ha : m.alloc B = some m')
    (h0 : w0.heap = w.heap) (h1 : w0.os = w.os) (h2 : w0.tape = w.tape) (h3 : w0.output = w.output) (hl : l.b = w.heap.size) (hB : BR (ins φ m.next l) B l (w0.alloc obj)) :
    Sim m.next φ (ins φ m.next l) w (w0.alloc obj) ∧ MR (ins φ m.next l) m'.get (w0.alloc obj) ∧ Bd (ins φ m.next l) m'.next ∧ WF m' ∧ m.next ≤ m'.next := by
  obtain ⟨a1, a2, a3, a4⟩ := LMem.alloc_spec hw ha
  have hn : φ m.next = none := hb.none (Nat.le_refl _)
  have hold : ∀ k, k < w.heap.size → (w0.alloc obj).heap[k]? = w.heap[k]? := fun k hk => by rw [heap_alloc_lt _ _ _ (by rw [h0]; exact hk), h0]
  refine ⟨⟨ins_ext hn, fun id l' hl' => ?_, fun id hid h => ?_, ⟨h1, h2, h3, by simp [h0], fun k hk _ => hold k hk⟩⟩, ?_, by rw [a1]; exact hb.ins, a4, by omega⟩
  · by_cases he : id = m.next
    · subst he; rw [ins_same] at hl'; cases hl'; exact .inr (by omega)
    · rw [ins_other he] at hl'; exact .inl ⟨id, l', hl', rfl⟩
  · rw [ins_other (by omega)]; exact h
  · refine hm.insert hn (fun id l' hl' => by have := hm.range hl'; omega) a2 (fun j hj _ => a3 j hj) (fun id l' hl' => hold _ (hm.range hl')) hB

/-- the relation of one logical value's effect -/
def Eff (m m' : LMem) (v : Value) (φ : Phi) (w : World) (r : Result Next) : Prop :=
  ∃ v' w' φ', (r = .ok (.value v') w' ∨ (r = .ok .skip w' ∧ v' = undef)) ∧ Sim m.next φ φ' w w' ∧ VR φ' v v' ∧ MR φ' m'.get w' ∧ Bd φ' m'.next

theorem ubL_splice {f : Value → Nat} {c vs : List Value} {off N : Nat} (hc : ubL f c ≤ N) (hv : ubL f vs ≤ N) : ubL f (splice c off vs) ≤ N := by
  have _s := SymT.tab
  apply ubL_of
  intro x hx
  unfold splice at hx
  rcases List.mem_append.1 hx with h | h
  · exact ubL_le hc x (List.mem_of_mem_take h)
  · rcases List.mem_append.1 h with h | h
    · exact ubL_le hv x h
    · exact ubL_le hc x (List.mem_of_mem_drop h)

theorem store_wf {m m' : LMem} {b off : Nat} {vs : List Value} (hw : WF m) (h : lstore m b off vs = some m') :
    ∃ c, m.get b = some (.cells c) ∧ off + vs.length ≤ c.length ∧ (∀ v ∈ vs, v.oneCell' = true) ∧ m'.get b = some (.cells (splice c off vs)) ∧ (∀ j, j ≠ b → m'.get j = m.get j) ∧ WF m' ∧ m'.next = m.next := by
  unfold lstore at h
  split at h
  · rename_i c hc
    cases hq : (Nat.ble (off + vs.length) c.length && vs.all Value.oneCell') with
    | false => simp only [hq, cond_false] at h; cases h
    | true =>
      simp only [hq, cond_true] at h
      rw [Bool.and_eq_true] at hq
      obtain ⟨a1, a2, a3, a4, a5⟩ := LMem.put_spec (b := .cells (splice c off vs)) hw (fun hu => ubL_splice (hw.closed b _ hc) hu) h
      exact ⟨c, hc, Nat.le_of_ble_eq_true hq.1, fun v hv => List.all_eq_true.1 hq.2 v hv, a3, a4, a5, a1⟩
  · cases h

/-- cells stored through a live block -/
theorem store_sim {m m' : LMem} {b off : Nat} {vs vs' : List Value} {φ : Phi} {w : World} (hw : WF m) (h : lstore m b off vs = some m') (hm : MR φ m.get w) (hphi : φ b ≠ none) (hv : VRL φ vs vs') :
    ∃ l w', φ b = some (some l) ∧ (storeCells ⟨l.b, l.sh + off, none⟩ vs').run P w = .ok () w' ∧ Sim m.next φ φ w w' ∧ MR φ m'.get w' := by
  obtain ⟨c, h1, h2, h3, h4, h5, h6, h7⟩ := store_wf hw h
  have hl : ∃ l, φ b = some (some l) := by
    cases hp : φ b with
    | none => exact absurd hp hphi
    | some x => cases x with
      | none => have := hm.dead b hp; rw [h1] at this; cases this
      | some l => exact ⟨l, rfl⟩
  obtain ⟨l, hl⟩ := hl
  obtain ⟨B, hB, hbr⟩ := hm.live b l hl
  rw [h1] at hB; cases hB
  obtain ⟨c', e, g1, g2, g3, g4⟩ := hbr
  have hlen := hv.length
  have hcs : c'.toList.length = l.sz := by simpa using g2
  have hrun := run_storeCells_at (P := P) l.b (l.sh + off) e vs' 0 c' w g1 (by omega) (fun v hv' => by
    obtain ⟨x, hx, hxv⟩ := hv.mem v hv'
    rw [hxv.oneCell]; exact h3 x hx)
  refine ⟨l, _, hl, hrun, Sim.inPlace hl rfl rfl rfl (by simp) (fun k hk => setRow_other w l.b k _ hk), ?_⟩
  refine hm.replace hl h4 h5 ?_ (fun k hk => setRow_other w l.b k _ hk)
  refine ⟨_, e, setRow_heap w l.b c' _ e _ g1, ?_, ?_, fun i v hi => ?_⟩
  · show (splice c'.toList (l.sh + off + 0) vs').length = l.sz
    rw [splice_length _ _ _ (by omega)]; exact hcs
  · rw [splice_length _ _ _ h2]; exact g3
  · rw [splice_get _ _ _ h2] at hi
    rw [mk_get, splice_get _ _ _ (by omega)]
    by_cases hin : off ≤ i ∧ i < off + vs.length
    · rw [if_pos hin] at hi
      rw [if_pos (by omega), show l.sh + i - (l.sh + off + 0) = i - off by omega]
      exact hv.get hi
    · rw [if_neg hin] at hi
      rw [if_neg (by omega)]
      obtain ⟨v', k1, k2⟩ := g4 i v hi
      exact ⟨v', by simpa using k1, k2⟩
end
end Go.Eng
