/- The engine's effects are those of the model: maps, clear, copy, calls; the whole. -/
import Derived.Test.YtopofdjgfbimnaaGreatEngJ
namespace Go.Eng
variable [SymV] [SymT]
section
variable {P : Program}

/-- effects without a value -/
def GoodU (m m' : LMem) (φ : Phi) (w : World) (r : Result Unit) : Prop :=
  ∃ w' φ', r = .ok () w' ∧ Sim m.next φ φ' w w' ∧ MR φ' m'.get w' ∧ Bd φ' m'.next

theorem run_setObj {w : World} {b : Nat} {es : Array MapEntry} {ck : Nat} (h : w.heap[b]? = some (.map es ck)) (o : Obj) : (setObj b o).run P w = .ok () { w with heap := w.heap.setIfInBounds b o } := by
  have _s := SymT.tab
  simp [setObj, Sem.run, h]

theorem heap_set_same {w : World} {b : Nat} {x : Obj} (h : w.heap[b]? = some x) (o : Obj) : (w.heap.setIfInBounds b o)[b]? = some o := by
  have _s := SymT.tab
  have hlt : b < w.heap.size := (Array.getElem?_eq_some_iff.1 h).1
  simp [hlt]

theorem lmax_le {a b N : Nat} (ha : a ≤ N) (hb : b ≤ N) : lmax a b ≤ N := by
  have _s := SymT.tab
  unfold lmax; cases Nat.ble a b <;> simpa

theorem ubE_le {es : List MapEntry} {N : Nat} (h : ubE es ≤ N) : ∀ e ∈ es, ub e.key ≤ N ∧ ub e.val ≤ N := by
  have _s := SymT.tab
  induction es with
  | nil => simp
  | cons a r ih =>
    intro e he
    simp only [ubE] at h
    have g1 := le_lmax_left (lmax (ub a.key) (ub a.val)) (ubE r)
    have g2 := le_lmax_right (lmax (ub a.key) (ub a.val)) (ubE r)
    have g3 := le_lmax_left (ub a.key) (ub a.val)
    have g4 := le_lmax_right (ub a.key) (ub a.val)
    rcases List.mem_cons.1 he with rfl | he
    · exact ⟨by omega, by omega⟩
    · exact ih (by omega) e he

theorem ubE_of {es : List MapEntry} {N : Nat} (h : ∀ e ∈ es, ub e.key ≤ N ∧ ub e.val ≤ N) : ubE es ≤ N := by
  induction es with
  | nil => simp [ubE]
  | cons a r ih =>
    have h1 := h a (by simp)
    have h2 := ih fun e he => h e (by simp [he])
    simp only [ubE]
    exact lmax_le (lmax_le h1.1 h1.2) h2

/-- a map's block replaced -/
theorem map_replace {m m' : LMem} {φ : Phi} {w : World} {r : Nat} {l : Loc} {es0 : Array MapEntry} {ck ck' : Nat} {es1 : List MapEntry} {es1' : Array MapEntry} (hm : MR φ m.get w) (hb : Bd φ m.next) (hl : φ r = some (some l))
    (hw0 : w.heap[l.b]? = some (.map es0 ck)) (hg : m'.get r = some (.map es1 ck')) (hgo : ∀ j, j ≠ r → m'.get j = m.get j) (hn : m'.next = m.next) (her : ERow φ es1 es1'.toList) :
    Sim m.next φ φ w { w with heap := w.heap.setIfInBounds l.b (.map es1' ck') } ∧ MR φ m'.get { w with heap := w.heap.setIfInBounds l.b (.map es1' ck') } ∧ Bd φ m'.next := by
  have ho : ∀ k, k ≠ l.b → ({ w with heap := w.heap.setIfInBounds l.b (.map es1' ck') } : World).heap[k]? = w.heap[k]? := fun k hk => by
    simp [Array.getElem?_setIfInBounds_ne (Ne.symm hk)]
  refine ⟨Sim.inPlace hl rfl rfl rfl (by simp) ho, hm.replace hl hg hgo ⟨es1', heap_set_same hw0 _, her⟩ ho, by rw [hn]; exact hb⟩

theorem lkey_eq {kd : TypeDesc} {k e : Value} (h : lkey kd k e = some true) (n : Nat) : e = k ∧ Instr.sameBits (n + 1) e k = true := by
  have _s := SymT.tab
  unfold lkey at h
  split at h
  · rename_i j a j' b
    split at h
    · rename_i hj
      subst hj
      simp at h; subst h
      exact ⟨rfl, by simp [Instr.sameBits]⟩
    · cases h
  · rename_i a b
    simp at h
    have : a = b := ByteArray.ext h
    subst this
    exact ⟨rfl, by simp [Instr.sameBits, beq_toListBytes]⟩
  · cases h

theorem lfind_key {kd : TypeDesc} {k : Value} : ∀ {es : List MapEntry} {i j : Nat} {v : Value}, lfind kd k es i = some (some (j, v)) → ∃ e, es[j - i]? = some e ∧ i ≤ j ∧ lkey kd k e.key = some true
  | [], i, j, v, h => by have _s := SymT.tab; simp [lfind] at h
  | e :: es, i, j, v, h => by
    unfold lfind at h
    split at h
    · rename_i hk
      simp only [Option.some.injEq, Prod.mk.injEq] at h
      obtain ⟨rfl, _⟩ := h
      exact ⟨e, by simp, Nat.le_refl _, hk⟩
    · obtain ⟨e', h1, h2, h3⟩ := lfind_key h
      exact ⟨e', by rw [show j - i = (j - (i + 1)) + 1 by omega]; simpa using h1, by omega, h3⟩
    · cases h

theorem mapUpdate_sim {m m' : LMem} {t : TypeId} {x k v : Value} (hw : WF m) (h : lmapUpdate P t x k v m = some m') :
    (m.next ≤ m'.next ∧ WF m') ∧ ∀ φ w x' k' v', MR φ m.get w → Bd φ m.next → VR φ x x' → VR φ k k' → VR φ v v' → GoodU m m' φ w ((Instr.mapUpdate t x' k' v').run P w) := by
  unfold lmapUpdate at h
  split at h
  case h_2 => cases h
  rename_i kt et r ht
  split at h
  case h_2 => cases h
  rename_i es ck kd hg hkd
  cases hc : (isKeyD kd && isKey k) with
  | false => simp [hc] at h
  | true =>
  simp only [hc, cond_true] at h
  rw [Bool.and_eq_true] at hc
  have hcl : ubE es ≤ m.next := hw.closed r _ hg
  split at h
  · rename_i i v0 hf
    obtain ⟨e0, he0, _, hkey⟩ := lfind_key hf
    rw [Nat.sub_zero] at he0
    have hilt : i < es.length := (List.getElem?_eq_some_iff.1 he0).1
    simp only [he0, Option.map_some, Option.getD_some] at h
    obtain ⟨p1, p2, p3, p4, p5⟩ := LMem.put_spec (b := .map (es.take i ++ { key := k, val := v, born := e0.born } :: es.drop (i + 1)) ck) hw (fun hu => by
      have q1 := le_lmax_left (ub k) (ub v)
      have q2 := le_lmax_right (ub k) (ub v)
      refine ubE_of fun e he => ?_
      rcases List.mem_append.1 he with he | he
      · exact ubE_le hcl e (List.mem_of_mem_take he)
      · rcases List.mem_cons.1 he with rfl | he
        · exact ⟨by show ub k ≤ _; omega, by show ub v ≤ _; omega⟩
        · exact ubE_le hcl e (List.mem_of_mem_drop he)) h
    refine ⟨⟨by omega, p5⟩, fun φ w x' k' v' hm hb hx hk hv => ?_⟩
    obtain ⟨l, es', hl, rfl, hw0, her⟩ := map_block hm.part hx hg
    have := vr_key hc.2 hk
    subst this
    obtain ⟨r', g1, g2⟩ := find_sim her hf
    cases r' with
    | none => exact g2.elim
    | some q =>
    obtain ⟨j', u⟩ := q
    obtain ⟨rfl, _, _, _⟩ := g2
    obtain ⟨e', t1, t2, t3, t4, t5⟩ := her.at_ i e0 he0
    have t1' : es'[i]? = some e' := by simpa using t1
    obtain ⟨hke, hsb⟩ := lkey_eq hkey 9999
    have hkts : (Instr.keyThatStays (((es'[i]?).map (·.key)).getD k') k').run P w = .ok k' w := by
      simp [Instr.keyThatStays, t1', t2, hke]
      rw [hke] at hsb
      simp [hsb]
    have hrow : ERow φ (es.take i ++ { key := k', val := v, born := e0.born } :: es.drop (i + 1)) (es'.modify i fun e => { e with key := k', val := v' }).toList := by
      have hlen := her.len
      have hilt' : i < es'.size := by simp at hlen; omega
      refine ⟨by simp at hlen ⊢; omega, fun j e hj => ?_⟩
      simp only [Array.toList_modify]
      by_cases hji : j = i
      · subst hji
        have hl2 : (es.take j).length = j := by rw [List.length_take]; omega
        rw [List.getElem?_append_right (by omega), hl2, Nat.sub_self] at hj
        simp at hj
        subst hj
        refine ⟨{ e' with key := k', val := v' }, ?_, rfl, ?_, t4, hv⟩
        · rw [List.getElem?_modify_eq, t1]; rfl
        · rw [← hke]; exact t3
      · have hj' : es[j]? = some e := by
          by_cases hlt : j < i
          · rw [List.getElem?_append_left (by simp; omega), List.getElem?_take_of_lt hlt] at hj; exact hj
          · rw [List.getElem?_append_right (by simp; omega)] at hj
            have hl2 : (es.take i).length = i := by simp; omega
            rw [hl2, show j - i = (j - i - 1) + 1 by omega] at hj
            simp only [List.getElem?_cons_succ, List.getElem?_drop] at hj
            rw [show i + 1 + (j - i - 1) = j by omega] at hj
            exact hj
        obtain ⟨e2, b1, b2, b3, b4, b5⟩ := her.at_ j e hj'
        refine ⟨e2, ?_, b2, b3, b4, b5⟩
        rw [List.getElem?_modify, b1]; simp [show ¬ i = j from Ne.symm hji]
    obtain ⟨z1, z2, z3⟩ := map_replace (es1' := es'.modify i fun e => { e with key := k', val := v' }) hm hb hl hw0 p3 p4 p1 hrow
    refine ⟨_, φ, ?_, z1, z2, z3⟩
    simp only [Instr.mapUpdate, Sem.run_bind, run_underlying ht, Result.andThen_ok, run_getObj_map hw0, run_checkKey hkd hc.1, run_findKey hkd g1, hkts, run_setObj hw0]
  · rename_i hf
    obtain ⟨p1, p2, p3, p4, p5⟩ := LMem.put_spec (b := .map (es ++ [{ key := k, val := v, born := ck }]) (ck + 1)) hw (fun hu => by
      have q1 := le_lmax_left (ub k) (ub v)
      have q2 := le_lmax_right (ub k) (ub v)
      refine ubE_of fun e he => ?_
      rcases List.mem_append.1 he with he | he
      · exact ubE_le hcl e he
      · simp at he; subst he; exact ⟨by show ub k ≤ _; omega, by show ub v ≤ _; omega⟩) h
    refine ⟨⟨by omega, p5⟩, fun φ w x' k' v' hm hb hx hk hv => ?_⟩
    obtain ⟨l, es', hl, rfl, hw0, her⟩ := map_block hm.part hx hg
    have := vr_key hc.2 hk
    subst this
    obtain ⟨r', g1, g2⟩ := find_sim her hf
    cases r' with
    | some q => exact g2.elim
    | none =>
    have hk0 : ub k' = 0 := by cases k' <;> first | rfl | (simp [isKey] at hc)
    have hrow : ERow φ (es ++ [{ key := k', val := v, born := ck }]) (es'.push { key := k', val := v', born := ck }).toList := by
      have hlen := her.len
      refine ⟨by simp at hlen ⊢; omega, fun j e hj => ?_⟩
      simp only [Array.toList_push]
      by_cases hlt : j < es.length
      · rw [List.getElem?_append_left hlt] at hj
        obtain ⟨e2, b1, b2, b3, b4, b5⟩ := her.at_ j e hj
        exact ⟨e2, by rw [List.getElem?_append_left (by omega)]; exact b1, b2, b3, b4, b5⟩
      · rw [List.getElem?_append_right (by omega)] at hj
        have hj0 : j = es.length := by
          have := (List.getElem?_eq_some_iff.1 hj).1
          simp at this; omega
        subst hj0
        simp at hj; subst hj
        exact ⟨{ key := k', val := v', born := ck }, by rw [List.getElem?_append_right (by omega), ← hlen]; simp, rfl, hk0, rfl, hv⟩
    obtain ⟨z1, z2, z3⟩ := map_replace (es1' := es'.push { key := k', val := v', born := ck }) hm hb hl hw0 p3 p4 p1 hrow
    refine ⟨_, φ, ?_, z1, z2, z3⟩
    simp only [Instr.mapUpdate, Sem.run_bind, run_underlying ht, Result.andThen_ok, run_getObj_map hw0, run_checkKey hkd hc.1, run_findKey hkd g1, run_setObj hw0]
  · cases h

theorem delete_sim {m m' : LMem} {t u ty : TypeId} {x k : Value} (hw : WF m) (h : ldelete P t x k m = some m') :
    (m.next ≤ m'.next ∧ WF m') ∧ ∀ φ w x' k', MR φ m.get w → Bd φ m.next → VR φ x x' → VR φ k k' → Good m m' (.tuple #[]) φ w ((Builtin.delete_ #[t, u] ty #[x', k']).run P w) := by
  unfold ldelete at h
  split at h
  case h_2 => cases h
  rename_i kt et r ht
  split at h
  case h_2 => cases h
  rename_i es ck kd hg hkd
  cases hc : (isKeyD kd && isKey k) with
  | false => simp [hc] at h
  | true =>
  simp only [hc, cond_true] at h
  rw [Bool.and_eq_true] at hc
  have hcl : ubE es ≤ m.next := hw.closed r _ hg
  split at h
  · rename_i i v0 hf
    obtain ⟨e0, he0, _, hkey⟩ := lfind_key hf
    rw [Nat.sub_zero] at he0
    have hilt : i < es.length := (List.getElem?_eq_some_iff.1 he0).1
    obtain ⟨p1, p2, p3, p4, p5⟩ := LMem.put_spec (b := .map (es.take i ++ es.drop (i + 1)) ck) hw (fun _ => by
      refine ubE_of fun e he => ?_
      rcases List.mem_append.1 he with he | he
      · exact ubE_le hcl e (List.mem_of_mem_take he)
      · exact ubE_le hcl e (List.mem_of_mem_drop he)) h
    refine ⟨⟨by omega, p5⟩, fun φ w x' k' hm hb hx hk => ?_⟩
    obtain ⟨l, es', hl, rfl, hw0, her⟩ := map_block hm.part hx hg
    have := vr_key hc.2 hk
    subst this
    obtain ⟨r', g1, g2⟩ := find_sim her hf
    cases r' with
    | none => exact g2.elim
    | some q =>
    obtain ⟨j', u'⟩ := q
    obtain ⟨rfl, _, _, _⟩ := g2
    have hlen := her.len
    have hrow : ERow φ (es.take i ++ es.drop (i + 1)) (es'.eraseIdxIfInBounds i).toList := by
      have hE : (es'.eraseIdxIfInBounds i).toList = es'.toList.take i ++ es'.toList.drop (i + 1) := by
        rw [Array.toList_eraseIdxIfInBounds, List.eraseIdx_eq_take_drop_succ]
      rw [hE]
      refine ⟨by simp at hlen ⊢; omega, fun j e hj => ?_⟩
      have hl1 : (es.take i).length = i := by simp; omega
      have hl2 : (es'.toList.take i).length = i := by simp at hlen ⊢; omega
      by_cases hlt : j < i
      · rw [List.getElem?_append_left (by omega), List.getElem?_take_of_lt hlt] at hj
        obtain ⟨e2, b1, b2⟩ := her.at_ j e hj
        exact ⟨e2, by rw [List.getElem?_append_left (by omega), List.getElem?_take_of_lt hlt]; exact b1, b2⟩
      · rw [List.getElem?_append_right (by omega), hl1, List.getElem?_drop] at hj
        obtain ⟨e2, b1, b2⟩ := her.at_ _ e hj
        exact ⟨e2, by rw [List.getElem?_append_right (by omega), hl2, List.getElem?_drop]; exact b1, b2⟩
    obtain ⟨z1, z2, z3⟩ := map_replace (es1' := es'.eraseIdxIfInBounds i) hm hb hl hw0 p3 p4 p1 hrow
    refine ⟨.tuple #[], _, φ, ?_, z1, .tuple _ _ .nil, z2, z3⟩
    simp [Builtin.delete_, run_underlying ht, run_getObj_map hw0, run_checkKey hkd hc.1, run_findKey hkd g1, run_setObj hw0]
  · rename_i hf
    obtain ⟨p1, p2, p3, p4, p5⟩ := LMem.put_spec (b := .map es ck) hw (fun _ => hcl) h
    refine ⟨⟨by omega, p5⟩, fun φ w x' k' hm hb hx hk => ?_⟩
    obtain ⟨l, es', hl, rfl, hw0, her⟩ := map_block hm.part hx hg
    have := vr_key hc.2 hk
    subst this
    obtain ⟨r', g1, g2⟩ := find_sim her hf
    cases r' with
    | some q => exact g2.elim
    | none =>
    obtain ⟨z1, z2, z3⟩ := map_replace (es1' := es') hm hb hl hw0 p3 p4 p1 her
    refine ⟨.tuple #[], _, φ, ?_, z1, .tuple _ _ .nil, z2, z3⟩
    simp [Builtin.delete_, run_underlying ht, run_getObj_map hw0, run_checkKey hkd hc.1, run_findKey hkd g1, run_setObj hw0]
  · cases h

theorem clear_sim {m m' : LMem} {t ty : TypeId} {x : Value} (hw : WF m) (h : lclear P t x m = some m') :
    (m.next ≤ m'.next ∧ WF m') ∧ ∀ φ w x', MR φ m.get w → Bd φ m.next → VR φ x x' → Good m m' (.tuple #[]) φ w ((Builtin.clear_ #[t] ty #[x']).run P w) := by
  unfold lclear at h
  split at h
  · rename_i e b off sp n cp ht
    split at h
    case h_2 => cases h
    rename_i ie hie
    split at h
    case h_2 => cases h
    rename_i z hz
    cases hq : (Nat.beq (ub z) 0 && Nat.beq z.cells.toList.length ie.size && Nat.ble 1 ie.size && Nat.ble 1 n) with
    | true =>
      simp only [hq, cond_true] at h
      simp only [Bool.and_eq_true] at hq
      obtain ⟨⟨⟨k1, k2⟩, k3⟩, k4⟩ := hq
      have k1 := Nat.eq_of_beq_eq_true k1
      have k2 := Nat.eq_of_beq_eq_true k2
      have k3 := Nat.le_of_ble_eq_true k3
      have k4 := Nat.le_of_ble_eq_true k4
      have k2' : z.cells.size = ie.size := by simpa using k2
      obtain ⟨c0, s1, s2, s3, s4, s5, s6, s7⟩ := store_wf hw h
      refine ⟨⟨by omega, s6⟩, fun φ w x' hm hb hx => ?_⟩
      have hz0 : (Builtin.zeroCells z.cells n).toList = lzeros z.cells.toList n := zero_cells z.cells (by omega) n _ rfl
      cases hx with
      | sdead _ _ _ _ _ cap' a hl =>
        have := hm.dead b hl
        rw [s1] at this; cases this
      | szero => omega
      | slice _ _ _ _ _ cap' l hl hlen hcap hex hsz =>
        obtain ⟨l', w', hl', hrun, hsim, hmr⟩ := store_sim (P := P) (vs' := lzeros z.cells.toList n) hw h hm (by rw [hl]; simp) (VRL.zeros k1 n)
        rw [hl] at hl'; cases hl'
        refine ⟨.tuple #[], w', φ, ?_, hsim, .tuple _ _ .nil, hmr, by rw [s7]; exact hb⟩
        cases n with
        | zero => omega
        | succ n => simp [Builtin.clear_, run_underlying ht, run_zeroValue' hie hz, hz0, hrun]
    | false =>
      simp only [hq, cond_false] at h
      cases hn : Nat.beq n 0 with
      | false => simp [hn] at h
      | true =>
        simp only [hn, cond_true, Option.some.injEq] at h
        subst h
        have := Nat.eq_of_beq_eq_true hn
        subst this
        refine ⟨⟨Nat.le_refl _, hw⟩, fun φ w x' hm hb hx => ⟨.tuple #[], w, φ, ?_, Sim.refl _ φ w, .tuple _ _ .nil, hm, hb⟩⟩
        cases hx <;> simp [Builtin.clear_, run_underlying ht]
  · rename_i e n cp ht
    cases h
    refine ⟨⟨Nat.le_refl _, hw⟩, fun φ w x' hm hb hx => ⟨.tuple #[], w, φ, ?_, Sim.refl _ φ w, .tuple _ _ .nil, hm, hb⟩⟩
    cases hx; simp [Builtin.clear_, run_underlying ht]
  · cases h

structure POK (P : Program) (X : ExtT) : Prop where
  num : ∀ (f : FuncId) (fn : Func), P.funcs[f]? = some fn → (fn.name == "runtime.NumGoroutine") = false
  add : ∀ args v w, ladd args = some v → (callFunc X.add ⟨args⟩).run P w = .ok (.value v) w
  sub : ∀ args v w, lsub args = some v → (callFunc X.sub ⟨args⟩).run P w = .ok (.value v) w
  mixed : P.follows .mixedOrders = true
  clone : ∀ fn, P.funcs[X.clone]? = some fn → ∀ t r w es ck, w.heap[r]? = some (.map es ck) → (callFunc X.clone ⟨[.iface t (.map (some r))]⟩).run P w = .ok (.value (.iface t (.map (some w.heap.size)))) (w.alloc (.map es ck))

/-- what a logical effect means -/
def LNR (m m' : LMem) (r : LN) (φ : Phi) (w : World) (res : Result Next) : Prop :=
  match r with
  | .val v => Eff m m' v φ w res
  | .enter f args => m' = m ∧ ∃ args', res = .ok (.enter f args') w ∧ VRL φ args args'.toList

theorem ladd_val {args : List Value} {v : Value} (h : ladd args = some v) : ub v = 0 := by
  have _s := SymT.tab
  unfold ladd at h
  split at h
  · rename_i k1 x k2 y k3 c
    cases hc : Nat.ble c.toNat 1 with
    | false => simp [hc] at h
    | true => simp only [hc, cond_true, Option.some.injEq] at h; subst h; rfl
  · cases h
theorem lsub_val {args : List Value} {v : Value} (h : lsub args = some v) : ub v = 0 := by
  have _s := SymT.tab
  unfold lsub at h
  split at h
  · rename_i k1 x k2 y k3 c
    cases hc : Nat.ble c.toNat 1 with
    | false => simp [hc] at h
    | true => simp only [hc, cond_true, Option.some.injEq] at h; subst h; rfl
  · cases h

theorem ladd_eq {φ : Phi} {args : List Value} {args' : List Value} {v : Value} (h : ladd args = some v) (ha : VRL φ args args') : args' = args := by
  have _s := SymT.tab
  have _s := SymT.tab
  unfold ladd at h
  split at h
  · cases ha with | cons _ _ _ _ h1 ha => cases ha with | cons _ _ _ _ h2 ha => cases ha with | cons _ _ _ _ h3 ha => cases ha; cases h1; cases h2; cases h3; rfl
  · cases h
theorem lsub_eq {φ : Phi} {args : List Value} {args' : List Value} {v : Value} (h : lsub args = some v) (ha : VRL φ args args') : args' = args := by
  have _s := SymT.tab
  unfold lsub at h
  split at h
  · cases ha with | cons _ _ _ _ h1 ha => cases ha with | cons _ _ _ _ h2 ha => cases ha with | cons _ _ _ _ h3 ha => cases ha; cases h1; cases h2; cases h3; rfl
  · cases h

theorem clone_sim {X : ExtT} (hP : POK P X) {m m' : LMem} {fn : Func} (hfn : P.funcs[X.clone]? = some fn) {args : List Value} {r : LN} (hw : WF m) (h : lclone args m = some (r, m')) :
    (m.next ≤ m'.next ∧ WF m') ∧ ∀ φ w args', MR φ m.get w → Bd φ m.next → VRL φ args args' → LNR m m' r φ w ((callFunc X.clone ⟨args'⟩).run P w) := by
  unfold lclone at h
  split at h
  case h_2 => cases h
  rename_i t q
  split at h
  case h_2 => cases h
  rename_i es ck hq
  simp only [Option.map_eq_some_iff, Prod.mk.injEq] at h
  obtain ⟨m1, ha, rfl, rfl⟩ := h
  obtain ⟨a1, a2, a3, a4⟩ := LMem.alloc_spec hw ha
  refine ⟨⟨by omega, a4⟩, fun φ w args' hm hb hv => ?_⟩
  cases hv with
  | cons _ y _ ys h1 h2 =>
  cases h2
  cases h1 with
  | iface _ _ y hy =>
  have key : ∀ l, φ q = some (some l) → y = .map (some l.b) → LNR m m1 (.val (.iface t (.map (some m.next)))) φ w ((callFunc X.clone ⟨[.iface t y]⟩).run P w) := by
    rintro l hl rfl
    obtain ⟨B, hB, hbr⟩ := hm.live q l hl
    rw [hq] at hB; cases hB
    obtain ⟨es', e1, e2⟩ := hbr
    have hnx : φ m.next = none := hb.none (Nat.le_refl _)
    obtain ⟨q1, q2, q3, _, _⟩ := alloc_world (w0 := w) (l := ⟨w.heap.size, 0, 0⟩) (obj := .map es' ck) hw hm hb ha rfl rfl rfl rfl rfl
      ⟨es', heap_alloc_new w _, e2.len, fun i e he => by
        obtain ⟨e', f1, f2, f3, f4, f5⟩ := e2.at_ i e he
        exact ⟨e', f1, f2, f3, f4, f5.mono (ins_ext hnx)⟩⟩
    exact ⟨_, _, _, .inl (hP.clone fn hfn t l.b w es' ck e1), q1, .iface _ _ _ (.map m.next ⟨w.heap.size, 0, 0⟩ (ins_same _ _ _)), q2, q3⟩
  cases hy with
  | map _ l hl => exact key l hl rfl
  | mdead _ r' hl => have := hm.dead q hl; rw [hq] at this; cases this

theorem callF_sim {X : ExtT} (hP : POK P X) {m m' : LMem} {f : FuncId} {args : List Value} {r : LN} (hw : WF m) (h : lcallF P X f args m = some (r, m')) :
    (m.next ≤ m'.next ∧ WF m') ∧ ∀ φ w args', MR φ m.get w → Bd φ m.next → VRL φ args args' → LNR m m' r φ w ((callFunc f ⟨args'⟩).run P w) := by
  unfold lcallF at h
  cases ha : Nat.beq f X.add with
  | true =>
    simp only [ha, cond_true, Option.map_eq_some_iff, Prod.mk.injEq] at h
    obtain ⟨v, hv, rfl, rfl⟩ := h
    have := Nat.eq_of_beq_eq_true ha
    subst this
    refine ⟨⟨Nat.le_refl _, hw⟩, fun φ w args' hm hb hargs => ?_⟩
    have := ladd_eq hv hargs
    subst this
    exact ⟨v, w, φ, .inl (hP.add _ v w hv), Sim.refl _ φ w, VR.refl 7 v (ladd_val hv), hm, hb⟩
  | false =>
    simp only [ha, cond_false] at h
    cases hs : Nat.beq f X.sub with
    | true =>
      simp only [hs, cond_true, Option.map_eq_some_iff, Prod.mk.injEq] at h
      obtain ⟨v, hv, rfl, rfl⟩ := h
      have := Nat.eq_of_beq_eq_true hs
      subst this
      refine ⟨⟨Nat.le_refl _, hw⟩, fun φ w args' hm hb hargs => ?_⟩
      have := lsub_eq hv hargs
      subst this
      exact ⟨v, w, φ, .inl (hP.sub _ v w hv), Sim.refl _ φ w, VR.refl 7 v (lsub_val hv), hm, hb⟩
    | false =>
      simp only [hs, cond_false] at h
      cases hcl : Nat.beq f X.clone with
      | true =>
        simp only [hcl, cond_true] at h
        have := Nat.eq_of_beq_eq_true hcl
        subst this
        split at h
        · rename_i fn hfn
          exact clone_sim hP hfn hw h
        · cases h
      | false =>
        simp only [hcl, cond_false] at h
        split at h
        case h_2 => cases h
        rename_i fn hf
        split at h
        case h_2 => cases h
        rename_i c hc
        simp only [Option.some.injEq, Prod.mk.injEq] at h
        obtain ⟨rfl, rfl⟩ := h
        refine ⟨⟨Nat.le_refl _, hw⟩, fun φ w args' hm hb hargs => ⟨rfl, ⟨args'⟩, ?_, hargs⟩⟩
        have hn := hP.num f fn hf
        simp only [callFunc, Sem.run_bind, run_program, Result.andThen_ok, hf]
        simp [hn, hc]

theorem find_list {α : Type} (a : Array α) (p : α → Bool) : a.find? p = a.toList.find? p := by
  have _s := SymT.tab
  simp

theorem invoke_sim {X : ExtT} (hP : POK P X) {m m' : LMem} {recv : Value} {name : String} {args : List Value} {r : LN} (hw : WF m) (h : linvoke P X recv name args m = some (r, m')) :
    (m.next ≤ m'.next ∧ WF m') ∧ ∀ φ w recv' args', MR φ m.get w → Bd φ m.next → VR φ recv recv' → VRL φ args args' → LNR m m' r φ w ((callMethod recv' name ⟨args'⟩).run P w) := by
  unfold linvoke at h
  split at h
  case h_2 => cases h
  rename_i t v
  split at h
  case h_2 => cases h
  rename_i i d hi hd
  split at h
  case h_2 => cases h
  rename_i me hme
  split at h
  case h_2 => cases h
  rename_i f p hpath hfunc
  cases hp : (isPtrD d == p) with
  | false => simp [hp] at h
  | true =>
    simp only [hp, cond_true] at h
    have hp' : isPtrD d = p := by simpa using hp
    obtain ⟨g1, g2⟩ := callF_sim hP hw h
    refine ⟨g1, fun φ w recv' args' hm hb hr hargs => ?_⟩
    cases hr with
    | iface _ _ v' hv =>
    have hcall := g2 φ w (v' :: args') hm hb (.cons _ _ _ _ hv hargs)
    have hmeth : ∀ n, (method (n + 1) t v' name).run P w = .ok (f, v') w := by
      intro n
      have hfind : i.methods.find? (fun x => x.name == name) = some me := by rw [find_list]; exact hme
      simp only [method, Sem.run_bind, run_typeInfo' hi, Result.andThen_ok, hfind, hpath, follow, Sem.run_pure, hfunc]
      have hrec : ∀ wr, (receiverAt t (.val v') p wr).run P w = .ok v' w := by
        intro wr
        subst hp'
        cases d <;> simp [receiverAt, run_underlying hd, isPtrD, Place.get]
      simp [hrec]
    have : (callMethod (.iface t v') name ⟨args'⟩).run P w = (callFunc f ⟨v' :: args'⟩).run P w := by
      simp only [callMethod, Sem.run_bind, run_program, Result.andThen_ok]
      rw [show P.types.size + Made.depth = (P.types.size + 99) + 1 from rfl, hmeth]
      simp
    rw [this]; exact hcall

theorem esim {X : ExtT} (hP : POK P X) {m m' : LMem} {o : Oper} {ρ : Operand → Value} {r : LN} (hw : WF m) (h : eop P X ρ o m = some (r, m')) :
    (m.next ≤ m'.next ∧ WF m') ∧ ∀ φ w ρ', MR φ m.get w → Bd φ m.next → (∀ x ∈ o.op.operands.toList, VR φ (ρ x) (ρ' x)) → LNR m m' r φ w ((execOp ρ' o).run P w) := by
  obtain ⟨dst, op, type, pos, after, guard⟩ := o
  have fin : ∀ {v : Value} {φ : Phi} {w : World} {s : Sem Value}, Good m m' v φ w (s.run P w) → Eff m m' v φ w ((do pure (Next.value (← s)) : Sem Next).run P w) := by
    rintro v φ w s ⟨v', w', φ', h1, h2⟩
    exact ⟨v', w', φ', .inl (by simp [h1]), h2⟩
  have finU : ∀ {φ : Phi} {w : World} {s : Sem Unit}, GoodU m m' φ w (s.run P w) → Eff m m' undef φ w ((do s; pure Next.skip : Sem Next).run P w) := by
    rintro φ w s ⟨w', φ', h1, h2, h3⟩
    exact ⟨undef, w', φ', .inr ⟨by simp [h1], rfl⟩, h2, VR.undef, h3⟩
  cases op <;> simp only [eop] at h <;> try (cases h; done)
  case store t a x =>
    split at h
    case h_2 => cases h
    rename_i b off i hb hi
    cases hq : Nat.beq (ρ x).cells.toList.length i.size with
    | false => simp only [hq, cond_false] at h; cases h
    | true =>
      simp only [hq, cond_true, Option.map_eq_some_iff, Prod.mk.injEq] at h
      obtain ⟨m1, hst, rfl, rfl⟩ := h
      obtain ⟨c0, s1, s2, s3, s4, s5, s6, s7⟩ := store_wf hw hst
      refine ⟨⟨by omega, s6⟩, fun φ w ρ' hm hbd hρ => finU ?_⟩
      have ha := hρ a (by simp [Op.operands])
      have hx := hρ x (by simp [Op.operands])
      rw [hb] at ha
      generalize hq2 : ρ' a = q at ha
      cases ha with
      | pdead _ _ _ a' hl =>
        have := hm.dead b hl
        rw [s1] at this; cases this
      | ptr _ _ l hl =>
        obtain ⟨l', w', hl', hrun, hsim, hmr⟩ := store_sim (P := P) hw hst hm (by rw [hl]; simp) hx.cells
        rw [hl] at hl'; cases hl'
        refine ⟨w', φ, ?_, hsim, hmr, by rw [s7]; exact hbd⟩
        have hlen := hx.cells.length
        have hlen2 := Nat.eq_of_beq_eq_true hq
        have hne : ¬ ((ρ' x).cells.size ≠ i.size) := by
          simp at hlen hlen2; omega
        simp only [Instr.storeAt, Instr.sureAddr, Sem.run_bind, Sem.run_pure, Result.andThen_ok, storeVar, run_sizeOf' hi]
        rw [if_neg hne]
        simpa using hrun
  case mapUpdate t x k v =>
    simp only [Option.map_eq_some_iff, Prod.mk.injEq] at h
    obtain ⟨m1, hu, rfl, rfl⟩ := h
    obtain ⟨g1, g2⟩ := mapUpdate_sim hw hu
    exact ⟨g1, fun φ w ρ' hm hb hρ => finU (g2 φ w _ _ _ hm hb (hρ x (by simp [Op.operands])) (hρ k (by simp [Op.operands])) (hρ v (by simp [Op.operands])))⟩
  case insert t x k v =>
    simp only [Option.map_eq_some_iff, Prod.mk.injEq] at h
    obtain ⟨m1, hu, rfl, rfl⟩ := h
    obtain ⟨g1, g2⟩ := mapUpdate_sim hw hu
    exact ⟨g1, fun φ w ρ' hm hb hρ => finU (g2 φ w _ _ _ hm hb (hρ x (by simp [Op.operands])) (hρ k (by simp [Op.operands])) (hρ v (by simp [Op.operands])))⟩
  case call c =>
    obtain ⟨callee, args, argTypes⟩ := c
    obtain ⟨args⟩ := args
    obtain ⟨argTypes⟩ := argTypes
    cases callee with
    | value fo =>
      simp only at h
      split at h
      case h_2 => cases h
      rename_i g first captured hf
      obtain ⟨g1, g2⟩ := callF_sim hP hw h
      refine ⟨g1, fun φ w ρ' hm hb hρ => ?_⟩
      have hfo := hρ fo (by simp [Op.operands, Call.operands])
      rw [hf] at hfo
      generalize hq : ρ' fo = q at hfo
      cases hfo with
      | func _ _ _ ys vs h1 h2 =>
        have := g2 φ w (ys.toList ++ args.map ρ' ++ vs.toList) hm hb ((h1.append (VRL.map fun x hx => hρ x (by simp [Op.operands, Call.operands, hx]))).append h2)
        have he : (execOp ρ' { dst := dst, op := .call { callee := .value fo, args := ⟨args⟩, argTypes := ⟨argTypes⟩ }, type := type, pos := pos, after := after, guard := guard }).run P w =
            (callFunc g ⟨ys.toList ++ args.map ρ' ++ vs.toList⟩).run P w := by
          simp only [execOp, resolve, hq, Deferred.ofValue, Sem.run_bind, Sem.run_pure, Result.andThen_ok, invoke]
          congr 2
          apply Array.ext'
          simp
        rw [he]; exact this
    | invoke recv name =>
      simp only at h
      obtain ⟨g1, g2⟩ := invoke_sim hP hw h
      refine ⟨g1, fun φ w ρ' hm hb hρ => ?_⟩
      have := g2 φ w (ρ' recv) (args.map ρ') hm hb (hρ recv (by simp [Op.operands, Call.operands])) (VRL.map fun x hx => hρ x (by simp [Op.operands, Call.operands, hx]))
      have he : (execOp ρ' { dst := dst, op := .call { callee := .invoke recv name, args := ⟨args⟩, argTypes := ⟨argTypes⟩ }, type := type, pos := pos, after := after, guard := guard }).run P w =
          (callMethod (ρ' recv) name ⟨args.map ρ'⟩).run P w := by
        simp only [execOp, resolve, Sem.run_bind, Sem.run_pure, Result.andThen_ok, invoke]
        simp
        rw [List.take_of_length_le (by simp)]
      rw [he]; exact this
    | builtin bi =>
      cases bi <;> try (simp at h; done)
      case append =>
        simp only at h
        split at h
        case h_2 => cases h
        rename_i s x t u
        split at h
        · rename_i q hu
          simp only [Option.map_eq_some_iff, Prod.mk.injEq] at h
          obtain ⟨⟨v, m1⟩, ha, rfl, rfl⟩ := h
          obtain ⟨g1, g2⟩ := append_sim (ty := type) hw ha hu (.inl ⟨q, rfl⟩)
          refine ⟨g1, fun φ w ρ' hm hb hρ => ?_⟩
          obtain ⟨v', w', φ', h1, h2⟩ := g2 φ w (ρ' s) (ρ' x) hm hb (hρ s (by simp [Op.operands, Call.operands])) (hρ x (by simp [Op.operands, Call.operands]))
          exact ⟨v', w', φ', .inl (by simp [execOp, resolve, invoke, builtin, h1]), h2⟩
        · rename_i hu
          simp only [Option.map_eq_some_iff, Prod.mk.injEq] at h
          obtain ⟨⟨v, m1⟩, ha, rfl, rfl⟩ := h
          obtain ⟨g1, g2⟩ := append_sim (ty := type) hw ha hu (.inr rfl)
          refine ⟨g1, fun φ w ρ' hm hb hρ => ?_⟩
          obtain ⟨v', w', φ', h1, h2⟩ := g2 φ w (ρ' s) (ρ' x) hm hb (hρ s (by simp [Op.operands, Call.operands])) (hρ x (by simp [Op.operands, Call.operands]))
          exact ⟨v', w', φ', .inl (by simp [execOp, resolve, invoke, builtin, h1]), h2⟩
        · cases h
      case clear =>
        simp only at h
        split at h
        case h_2 => cases h
        rename_i x t
        simp only [Option.map_eq_some_iff, Prod.mk.injEq] at h
        obtain ⟨m1, ha, rfl, rfl⟩ := h
        obtain ⟨g1, g2⟩ := clear_sim (ty := type) hw ha
        refine ⟨g1, fun φ w ρ' hm hb hρ => ?_⟩
        obtain ⟨v', w', φ', h1, h2⟩ := g2 φ w (ρ' x) hm hb (hρ x (by simp [Op.operands, Call.operands]))
        exact ⟨v', w', φ', .inl (by simp [execOp, resolve, invoke, builtin, h1]), h2⟩
      case delete =>
        simp only at h
        split at h
        case h_2 => cases h
        rename_i x k t u
        simp only [Option.map_eq_some_iff, Prod.mk.injEq] at h
        obtain ⟨m1, ha, rfl, rfl⟩ := h
        obtain ⟨g1, g2⟩ := delete_sim (u := u) (ty := type) hw ha
        refine ⟨g1, fun φ w ρ' hm hb hρ => ?_⟩
        obtain ⟨v', w', φ', h1, h2⟩ := g2 φ w (ρ' x) (ρ' k) hm hb (hρ x (by simp [Op.operands, Call.operands])) (hρ k (by simp [Op.operands, Call.operands]))
        exact ⟨v', w', φ', .inl (by simp [execOp, resolve, invoke, builtin, h1]), h2⟩
end
end Go.Eng
