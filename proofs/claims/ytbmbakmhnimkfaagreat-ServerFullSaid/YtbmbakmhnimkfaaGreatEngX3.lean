/- The engine: a deterministic run of the model's code on a logical memory, proved sound against 'Calls' (part 3). No condition. -/
import Derived.Test.YtbmbakmhnimkfaaGreatEngX2
import Derived.LoopN
import Derived.Scope
import Derived.Below
import Derived.Laws.Externs
set_option linter.unusedSimpArgs false
set_option linter.unusedVariables false
/- The engine's effects are those of the model: maps, clear, copy, calls; the whole. -/
namespace Go.Eng
variable [SymV]
section
variable {P : Program}

/-- effects without a value -/
def GoodU (m m' : LMem) (φ : Phi) (w : World) (r : Result Unit) : Prop :=
  ∃ w' φ', r = .ok () w' ∧ Sim m.next φ φ' w w' ∧ MR φ' m'.get w' ∧ Bd φ' m'.next

theorem run_setObj {w : World} {b : Nat} {es : Array MapEntry} {ck : Nat} (h : w.heap[b]? = some (.map es ck)) (o : Obj) : (setObj b o).run P w = .ok () { w with heap := w.heap.setIfInBounds b o } := by
  have _s := SymV.val
  simp [setObj, Sem.run, h]

theorem heap_set_same {w : World} {b : Nat} {x : Obj} (h : w.heap[b]? = some x) (o : Obj) : (w.heap.setIfInBounds b o)[b]? = some o := by
  have _s := SymV.val
  have hlt : b < w.heap.size := (Array.getElem?_eq_some_iff.1 h).1
  simp [hlt]

theorem lmax_le {a b N : Nat} (ha : a ≤ N) (hb : b ≤ N) : lmax a b ≤ N := by
  have _s := SymV.val
  unfold lmax; cases Nat.ble a b <;> simpa

theorem ubE_le {es : List MapEntry} {N : Nat} (h : ubE es ≤ N) : ∀ e ∈ es, ub e.key ≤ N ∧ ub e.val ≤ N := by
  have _s := SymV.val
  induction es with
  | nil => simp
  | cons a r ih =>
    intro e he
    simp only [ubE] at h
    have g1 := le_lmax_left (lmax (ub a.key) (ub a.val)) (ubE r)
    have g2 := le_lmax_right (lmax (ub a.key) (ub a.val)) (ubE r)
    have g3 := le_lmax_left (ub a.key) (ub a.val)
    have g4 := le_lmax_right (ub a.key) (ub a.val)
    rcases List.mem_cons.1 he with rfl | he
    · exact ⟨by omega, by omega⟩
    · exact ih (by omega) e he

theorem ubE_of {es : List MapEntry} {N : Nat} (h : ∀ e ∈ es, ub e.key ≤ N ∧ ub e.val ≤ N) : ubE es ≤ N := by
  induction es with
  | nil => simp [ubE]
  | cons a r ih =>
    have h1 := h a (by simp)
    have h2 := ih fun e he => h e (by simp [he])
    simp only [ubE]
    exact lmax_le (lmax_le h1.1 h1.2) h2

/-- a map's block replaced -/
theorem map_put {m m' : LMem} {φ : Phi} {w : World} {r : Nat} {l : Loc} {es0 : Array MapEntry} {ck ck' : Nat} {B : LB} {es1' : Array MapEntry} (hm : MR φ m.get w) (hb : Bd φ m.next) (hl : φ r = some (some l))
    (hw0 : w.heap[l.b]? = some (.map es0 ck)) (hg : m'.get r = some B) (hgo : ∀ j, j ≠ r → m'.get j = m.get j) (hn : m'.next = m.next) (hB : BR φ B l { w with heap := w.heap.setIfInBounds l.b (.map es1' ck') }) :
    Sim m.next φ φ w { w with heap := w.heap.setIfInBounds l.b (.map es1' ck') } ∧ MR φ m'.get { w with heap := w.heap.setIfInBounds l.b (.map es1' ck') } ∧ Bd φ m'.next := by
  have ho : ∀ k, k ≠ l.b → ({ w with heap := w.heap.setIfInBounds l.b (.map es1' ck') } : World).heap[k]? = w.heap[k]? := fun k hk => by
    simp [Array.getElem?_setIfInBounds_ne (Ne.symm hk)]
  exact ⟨Sim.inPlace hl rfl rfl rfl (by simp) ho, hm.replace hl hg hgo hB ho, by rw [hn]; exact hb⟩

theorem map_replace {m m' : LMem} {φ : Phi} {w : World} {r : Nat} {l : Loc} {es0 : Array MapEntry} {ck ck' c0 : Nat} {es1 : List MapEntry} {es1' : Array MapEntry} (hm : MR φ m.get w) (hb : Bd φ m.next) (hl : φ r = some (some l))
    (hw0 : w.heap[l.b]? = some (.map es0 ck)) (hg : m'.get r = some (.map es1 c0)) (hgo : ∀ j, j ≠ r → m'.get j = m.get j) (hn : m'.next = m.next) (her : ERow φ es1 es1'.toList) (hst : Stamp es1'.toList ck') :
    Sim m.next φ φ w { w with heap := w.heap.setIfInBounds l.b (.map es1' ck') } ∧ MR φ m'.get { w with heap := w.heap.setIfInBounds l.b (.map es1' ck') } ∧ Bd φ m'.next :=
  map_put hm hb hl hw0 hg hgo hn ⟨es1', ck', heap_set_same hw0 _, her, hst⟩

theorem Stamp.modify {es : Array MapEntry} {ck i : Nat} {k v : Value} {e : MapEntry} (h : Stamp es.toList ck) (he : es[i]? = some e) (hk : e.key = k) : Stamp (es.modify i fun e => { e with key := k, val := v }).toList ck := by
  have _s := SymV.val
  have _s := SymV.val
  have hi : i < es.size := (Array.getElem?_eq_some_iff.1 he).1
  have hm : ∀ {β : Type} (f : MapEntry → β), f { e with key := k, val := v } = f e → (es.modify i fun e => { e with key := k, val := v }).toList.map f = es.toList.map f := by
    intro β f hf
    refine List.ext_getElem? fun j => ?_
    rw [List.getElem?_map, List.getElem?_map, Array.toList_modify, List.getElem?_modify]
    by_cases hji : i = j
    · subst hji
      have : es.toList[i]? = some e := by simpa using he
      rw [this]
      simp [hf]
    · simp [hji]
  refine ⟨fun x hx => ?_, ?_, ?_⟩
  · have : x.born ∈ (es.modify i fun e => { e with key := k, val := v }).toList.map (·.born) := List.mem_map_of_mem hx
    rw [hm (·.born) rfl] at this
    obtain ⟨y, hy, hyb⟩ := List.mem_map.1 this
    rw [← hyb]; exact h.born y hy
  · rw [hm (·.born) rfl]; exact h.nodup
  · rw [hm (·.key) hk.symm]; exact h.keys

theorem Stamp.push {es : Array MapEntry} {ck : Nat} {k v : Value} (h : Stamp es.toList ck) (hk : ∀ e ∈ es.toList, e.key ≠ k) : Stamp (es.push { key := k, val := v, born := ck }).toList (ck + 1) := by
  have _s := SymV.val
  rw [Array.toList_push]
  refine ⟨fun x hx => ?_, ?_, ?_⟩
  · rcases List.mem_append.1 hx with hx | hx
    · have := h.born x hx; omega
    · simp at hx; subst hx; show ck < ck + 1; omega
  · rw [List.map_append, List.nodup_append]
    refine ⟨h.nodup, by simp, fun a ha b hb => ?_⟩
    obtain ⟨x, hx, rfl⟩ := List.mem_map.1 ha
    simp at hb; subst hb
    have := h.born x hx; omega
  · rw [List.map_append, List.nodup_append]
    refine ⟨h.keys, by simp, fun a ha b hb => ?_⟩
    obtain ⟨x, hx, rfl⟩ := List.mem_map.1 ha
    simp at hb; subst hb
    exact hk x hx

theorem Stamp.erase {es : Array MapEntry} {ck i : Nat} (h : Stamp es.toList ck) : Stamp (es.eraseIdxIfInBounds i).toList ck := by
  have _s := SymV.val
  have hs : ((es.eraseIdxIfInBounds i).toList).Sublist es.toList := by
    rw [Array.toList_eraseIdxIfInBounds]
    exact List.eraseIdx_sublist _ _
  exact ⟨fun x hx => h.born x (hs.subset hx), (hs.map _).nodup h.nodup, (hs.map _).nodup h.keys⟩

theorem lkey_ne {kd : TypeDesc} {k e : Value} (h : lkey kd k e = some false) : e ≠ k := by
  have _s := SymV.val
  intro he
  subst he
  unfold lkey at h
  split at h
  · rename_i j a j' b hh
    first
      | (simp at h; done)
      | (cases hh; simp at h)
      | skip
    all_goals simp_all
  · simp_all
  · cases h

theorem lfind_none {kd : TypeDesc} {k : Value} : ∀ {es : List MapEntry} {i : Nat}, lfind kd k es i = some none → ∀ e ∈ es, e.key ≠ k
  | [], _, _, e, he => by cases he
  | x :: es, i, h, e, he => by
    unfold lfind at h
    split at h
    · cases h
    · rename_i hk
      rcases List.mem_cons.1 he with rfl | he
      · exact lkey_ne hk
      · exact lfind_none h e he
    · cases h

theorem ERow.keys {φ : Phi} {es es' : List MapEntry} {k : Value} (h : ERow φ es es') (hk : ∀ e ∈ es, e.key ≠ k) : ∀ e ∈ es', e.key ≠ k := by
  intro e he
  obtain ⟨i, hi, rfl⟩ := List.getElem_of_mem he
  have hl := h.len
  obtain ⟨e', h1, h2, _⟩ := h.at_ i es[i] (List.getElem?_eq_getElem (by omega))
  rw [List.getElem?_eq_getElem hi] at h1
  cases h1
  rw [h2]
  exact hk _ (List.getElem_mem _)

theorem lkey_eq {kd : TypeDesc} {k e : Value} (h : lkey kd k e = some true) (n : Nat) : e = k ∧ Instr.sameBits (n + 1) e k = true := by
  have _s := SymV.val
  unfold lkey at h
  split at h
  · rename_i j a j' b
    split at h
    · rename_i hj
      subst hj
      simp at h; subst h
      exact ⟨rfl, by simp [Instr.sameBits]⟩
    · cases h
  · rename_i a b
    simp at h
    have : a = b := ByteArray.ext h
    subst this
    exact ⟨rfl, by simp [Instr.sameBits, beq_toListBytes]⟩
  · cases h

theorem lfind_key {kd : TypeDesc} {k : Value} : ∀ {es : List MapEntry} {i j : Nat} {v : Value}, lfind kd k es i = some (some (j, v)) → ∃ e, es[j - i]? = some e ∧ i ≤ j ∧ lkey kd k e.key = some true
  | [], i, j, v, h => by have _s := SymV.val; simp [lfind] at h
  | e :: es, i, j, v, h => by
    unfold lfind at h
    split at h
    · rename_i hk
      simp only [Option.some.injEq, Prod.mk.injEq] at h
      obtain ⟨rfl, _⟩ := h
      exact ⟨e, by simp, Nat.le_refl _, hk⟩
    · obtain ⟨e', h1, h2, h3⟩ := lfind_key h
      exact ⟨e', by rw [show j - i = (j - (i + 1)) + 1 by omega]; simpa using h1, by omega, h3⟩
    · cases h

theorem mp_key {kd : TypeDesc} {k k' : Value} {φ : Phi} (hi : isIntD kd = true) : isKeyD kd = true := by
  have _s := SymV.val
  revert hi
  cases kd <;> intro hc <;> first | rfl | (simp [isIntD] at hc; done)

theorem mp_update {m m' : LMem} {t kt et : TypeId} {kd : TypeDesc} {r n s s' : Nat} {kf : FloatKind} {k : Value} {cs : Array Value} (ht : P.underlying t = some (.map kt et)) (hkd : P.underlying kt = some kd) (hi : isIntD kd = true) (hk : isScP k = true) (hcs : cs.toList.all isScP = true)
    (hg : m.get r = some (.mp n s)) (hl : llk (.mset n) (.float .f64 s :: k :: cs.toList) SymD.ltab = some (.float kf s')) (hw : WF m) (h : m.put r 0 (.mp n s') = some m') :
    (m.next ≤ m'.next ∧ WF m') ∧ ∀ φ w x' k' v', MR φ m.get w → Bd φ m.next → VR φ (.map (some r)) x' → VR φ k k' → VR φ (.agg cs) v' → GoodU m m' φ w ((Instr.mapUpdate t x' k' v').run P w) := by
  obtain ⟨p1, p2, p3, p4, p5⟩ := LMem.put_spec (b := .mp n s') hw (fun _ => Nat.zero_le _) h
  refine ⟨⟨by omega, p5⟩, fun φ w x' k' v' hm hb hx hkv hv => ?_⟩
  obtain ⟨l, es', ck, rs, hlr, rfl, hw0, hrs, hmr, hst, hsz⟩ := mp_block hm.part hx hg
  have hk' := hkv.denP hk
  have hkD : isKeyD kd = true := by
    revert hi
    cases kd <;> intro hc <;> first | rfl | (simp [isIntD] at hc; done)
  obtain ⟨_, _, h3⟩ := llk_spec SymV.lok hl
  rw [List.map_cons, List.map_cons, denX_sc hk, ← hk', denX_dens hcs] at h3
  cases hv with
  | agg _ ys hys =>
  have hys' : ys.toList = cs.toList.map (Eng.den SymV.val) := VRL.denP hcs hys
  rw [← hys'] at h3
  have h4 : (match lrows (SymV.lst s) with
    | some rs => bif okKey k' && Nat.beq ys.toList.length n && ys.toList.all isOneV then (match mfind k' rs 0 with
      | some (some i) => some (lv (rs.set i (k' :: ys.toList)))
      | some none => bif Nat.ble (rs.length + 1) 1048576 then some (lv (rs ++ [k' :: ys.toList])) else none
      | none => none) else none
    | none => none) = some (SymV.lst s') := h3
  rw [hrs] at h4
  simp only at h4
  cases hq : (okKey k' && Nat.beq ys.toList.length n && ys.toList.all isOneV) with
  | false => rw [hq] at h4; cases h4
  | true =>
  rw [hq] at h4
  simp only [cond_true] at h4
  rw [Bool.and_eq_true, Bool.and_eq_true] at hq
  obtain ⟨⟨q1, q2⟩, q3⟩ := hq
  have q2 := Nat.eq_of_beq_eq_true q2
  obtain ⟨kk, nn, rfl⟩ : ∃ kk nn, k' = .int kk nn := by
    cases k' <;> first | exact ⟨_, _, rfl⟩ | cases q1
  split at h4
  · rename_i i hf
    have hs' := (Option.some.inj h4).symm
    obtain ⟨r', g1, g2⟩ := mfind_sim hi hmr hf
    cases r' with
    | none => exact g2.elim
    | some q =>
    obtain ⟨j', v0⟩ := q
    obtain ⟨rfl, _, n1, kk1, vs, e, a3, a4, a5, a6, rfl, a8, a9, a10⟩ := g2
    rw [Nat.sub_zero] at a3 a4
    cases a5
    have a4' : es'[i]? = some e := by simpa using a4
    have hkts : (Instr.keyThatStays (((es'[i]?).map (·.key)).getD (.int kk nn)) (.int kk nn)).run P w = .ok (.int kk nn) w := by
      simp [Instr.keyThatStays, a4', a6, Instr.sameBits]
    have hrow : MRows n (rs.set i (.int kk nn :: ys.toList)) (es'.modify i fun e => { e with key := .int kk nn, val := .agg ys }).toList := by
      have hlen := hmr.len
      refine ⟨by simp at hlen ⊢; omega, fun j r hj => ?_⟩
      simp only [Array.toList_modify]
      rw [List.getElem?_set] at hj
      by_cases hji : i = j
      · subst hji
        have hlt : i < rs.length := (List.getElem?_eq_some_iff.1 a3).1
        rw [if_pos rfl, if_pos hlt] at hj
        cases hj
        exact ⟨kk, nn, ys.toList, { e with key := .int kk nn, val := .agg ys }, rfl, q1, q2, q3, by rw [List.getElem?_modify_eq, a4]; rfl, rfl, rfl⟩
      · rw [if_neg hji] at hj
        obtain ⟨k2, n2, c2, e2, b1, b2, b3, b4, b5, b6, b7⟩ := hmr.at_ j r hj
        exact ⟨k2, n2, c2, e2, b1, b2, b3, b4, by rw [List.getElem?_modify, b5]; simp [hji], b6, b7⟩
    obtain ⟨z1, z2, z3⟩ := map_put (ck' := ck) (es1' := es'.modify i fun e => { e with key := .int kk nn, val := .agg ys }) hm hb hlr hw0 p3 p4 p1
      ⟨_, ck, _, heap_set_same hw0 _, by rw [hs', lrows_lv], hrow, hst.modify a4' a6, by rw [List.length_set]; exact hsz⟩
    refine ⟨_, φ, ?_, z1, z2, z3⟩
    simp only [Instr.mapUpdate, Sem.run_bind, run_underlying ht, Result.andThen_ok, run_getObj_map hw0, run_checkKey hkd hkD, run_findKey hkd g1, hkts, run_setObj hw0]
  · rename_i hf
    cases hc : Nat.ble (rs.length + 1) 1048576 with
    | false => rw [hc] at h4; cases h4
    | true =>
    rw [hc] at h4
    have hs' := (Option.some.inj h4).symm
    have hc := Nat.le_of_ble_eq_true hc
    obtain ⟨r', g1, g2⟩ := mfind_sim hi hmr hf
    cases r' with
    | some q => exact g2.elim
    | none =>
    have hrow : MRows n (rs ++ [.int kk nn :: ys.toList]) (es'.push { key := .int kk nn, val := .agg ys, born := ck }).toList := by
      have hlen := hmr.len
      refine ⟨by simp at hlen ⊢; omega, fun j r hj => ?_⟩
      simp only [Array.toList_push]
      by_cases hlt : j < rs.length
      · rw [List.getElem?_append_left hlt] at hj
        obtain ⟨k2, n2, c2, e2, b1, b2, b3, b4, b5, b6, b7⟩ := hmr.at_ j r hj
        exact ⟨k2, n2, c2, e2, b1, b2, b3, b4, by rw [List.getElem?_append_left (by omega)]; exact b5, b6, b7⟩
      · rw [List.getElem?_append_right (by omega)] at hj
        have hj0 : j = rs.length := by
          have := (List.getElem?_eq_some_iff.1 hj).1
          simp at this; omega
        subst hj0
        simp at hj; subst hj
        exact ⟨kk, nn, ys.toList, { key := .int kk nn, val := .agg ys, born := ck }, rfl, q1, q2, q3, by rw [List.getElem?_append_right (by omega), ← hlen]; simp, rfl, rfl⟩
    obtain ⟨z1, z2, z3⟩ := map_put (ck' := ck + 1) (es1' := es'.push { key := .int kk nn, val := .agg ys, born := ck }) hm hb hlr hw0 p3 p4 p1
      ⟨_, ck + 1, _, heap_set_same hw0 _, by rw [hs', lrows_lv], hrow, hst.push g2, by rw [List.length_append, List.length_singleton]; exact hc⟩
    refine ⟨_, φ, ?_, z1, z2, z3⟩
    simp only [Instr.mapUpdate, Sem.run_bind, run_underlying ht, Result.andThen_ok, run_getObj_map hw0, run_checkKey hkd hkD, run_findKey hkd g1, run_setObj hw0]
  · cases h4

theorem mp_delete {m m' : LMem} {t u ty kt et : TypeId} {kd : TypeDesc} {r n s s' : Nat} {kf : FloatKind} {k : Value} (ht : P.underlying t = some (.map kt et)) (hkd : P.underlying kt = some kd) (hi : isIntD kd = true) (hk : isScP k = true)
    (hg : m.get r = some (.mp n s)) (hl : llk .mdel [.float .f64 s, k] SymD.ltab = some (.float kf s')) (hw : WF m) (h : m.put r 0 (.mp n s') = some m') :
    (m.next ≤ m'.next ∧ WF m') ∧ ∀ φ w x' k', MR φ m.get w → Bd φ m.next → VR φ (.map (some r)) x' → VR φ k k' → Good m m' (.tuple #[]) φ w ((Builtin.delete_ #[t, u] ty #[x', k']).run P w) := by
  obtain ⟨p1, p2, p3, p4, p5⟩ := LMem.put_spec (b := .mp n s') hw (fun _ => Nat.zero_le _) h
  refine ⟨⟨by omega, p5⟩, fun φ w x' k' hm hb hx hkv => ?_⟩
  obtain ⟨l, es', ck, rs, hlr, rfl, hw0, hrs, hmr, hst, hsz⟩ := mp_block hm.part hx hg
  have hk' := hkv.denP hk
  have hkD : isKeyD kd = true := by
    revert hi
    cases kd <;> intro hc <;> first | rfl | (simp [isIntD] at hc; done)
  obtain ⟨_, _, h3⟩ := llk_spec SymV.lok hl
  rw [List.map_cons, List.map_cons, List.map_nil, denX_sc hk, ← hk'] at h3
  have h4 : (match lrows (SymV.lst s) with
    | some rs => match mfind k' rs 0 with
      | some (some i) => some (lv (rs.eraseIdx i))
      | some none => some (SymV.lst s)
      | none => none
    | none => none) = some (SymV.lst s') := h3
  rw [hrs] at h4
  simp only at h4
  split at h4
  · rename_i i hf
    have hs' := (Option.some.inj h4).symm
    obtain ⟨r', g1, g2⟩ := mfind_sim hi hmr hf
    cases r' with
    | none => exact g2.elim
    | some q =>
    obtain ⟨j', v0⟩ := q
    obtain ⟨rfl, _⟩ := g2
    have hrow : MRows n (rs.eraseIdx i) (es'.eraseIdxIfInBounds i).toList := by
      have hlen := hmr.len
      rw [Array.toList_eraseIdxIfInBounds]
      refine ⟨by rw [List.length_eraseIdx, List.length_eraseIdx, hlen], fun j r hj => ?_⟩
      rw [List.getElem?_eraseIdx] at hj
      split at hj
      · rename_i hlt
        obtain ⟨k2, n2, c2, e2, b1, b2, b3, b4, b5, b6, b7⟩ := hmr.at_ j r hj
        exact ⟨k2, n2, c2, e2, b1, b2, b3, b4, by rw [List.getElem?_eraseIdx, if_pos hlt]; exact b5, b6, b7⟩
      · rename_i hlt
        obtain ⟨k2, n2, c2, e2, b1, b2, b3, b4, b5, b6, b7⟩ := hmr.at_ (j + 1) r hj
        exact ⟨k2, n2, c2, e2, b1, b2, b3, b4, by rw [List.getElem?_eraseIdx, if_neg hlt]; exact b5, b6, b7⟩
    obtain ⟨z1, z2, z3⟩ := map_put (ck' := ck) (es1' := es'.eraseIdxIfInBounds i) hm hb hlr hw0 p3 p4 p1
      ⟨_, ck, _, heap_set_same hw0 _, by rw [hs', lrows_lv], hrow, hst.erase, by rw [List.length_eraseIdx]; split <;> omega⟩
    refine ⟨.tuple #[], _, φ, ?_, z1, .tuple _ _ .nil, z2, z3⟩
    simp [Builtin.delete_, run_underlying ht, run_getObj_map hw0, run_checkKey hkd hkD, run_findKey hkd g1, run_setObj hw0]
  · rename_i hf
    have hs' := (Option.some.inj h4).symm
    obtain ⟨r', g1, g2⟩ := mfind_sim hi hmr hf
    cases r' with
    | some q => exact g2.elim
    | none =>
    obtain ⟨z1, z2, z3⟩ := map_put (ck' := ck) (es1' := es') hm hb hlr hw0 p3 p4 p1
      ⟨_, ck, _, heap_set_same hw0 _, by rw [hs']; exact hrs, hmr, hst, hsz⟩
    refine ⟨.tuple #[], _, φ, ?_, z1, .tuple _ _ .nil, z2, z3⟩
    simp [Builtin.delete_, run_underlying ht, run_getObj_map hw0, run_checkKey hkd hkD, run_findKey hkd g1, run_setObj hw0]
  · cases h4

theorem mapUpdate_sim {m m' : LMem} {t : TypeId} {x k v : Value} (hw : WF m) (h : lmapUpdate P t x k v m = some m') :
    (m.next ≤ m'.next ∧ WF m') ∧ ∀ φ w x' k' v', MR φ m.get w → Bd φ m.next → VR φ x x' → VR φ k k' → VR φ v v' → GoodU m m' φ w ((Instr.mapUpdate t x' k' v').run P w) := by
  unfold lmapUpdate at h
  split at h
  case h_2 => cases h
  rename_i kt et r ht
  split at h
  case h_3 => cases h
  case h_2 =>
    rename_i n s kd hg hkd
    cases hc : (isIntD kd && isScP k) with
    | false => rw [hc] at h; cases h
    | true =>
    rw [hc] at h
    rw [Bool.and_eq_true] at hc
    simp only [cond_true] at h
    split at h
    case h_2 => cases h
    rename_i cs
    cases hcs : cs.toList.all isScP with
    | false => rw [hcs] at h; cases h
    | true =>
    rw [hcs] at h
    simp only [cond_true] at h
    split at h
    case h_2 => cases h
    rename_i kf s' hl
    obtain ⟨g1, g2⟩ := mp_update (P := P) ht hkd hc.1 hc.2 hcs hg hl hw h
    exact ⟨g1, fun φ w x' k' v' hm hb hx hk hv => g2 φ w x' k' v' hm hb hx hk hv⟩
  rename_i es ck kd hg hkd
  generalize hkx : kix 9 k = kx at h
  cases hc : (isKeyD kd && isKey kx) with
  | false => simp [hc] at h
  | true =>
  simp only [hc, cond_true] at h
  rw [Bool.and_eq_true] at hc
  have hcl : ubE es ≤ m.next := hw.closed r _ hg
  split at h
  · rename_i i v0 hf
    obtain ⟨e0, he0, _, hkey⟩ := lfind_key hf
    rw [Nat.sub_zero] at he0
    have hilt : i < es.length := (List.getElem?_eq_some_iff.1 he0).1
    obtain ⟨p1, p2, p3, p4, p5⟩ := LMem.put_spec (b := .map (es.take i ++ { key := kx, val := v, born := 0 } :: es.drop (i + 1)) 0) hw (fun hu => by
      have q1 := le_lmax_left (ub kx) (ub v)
      have q2 := le_lmax_right (ub kx) (ub v)
      refine ubE_of fun e he => ?_
      rcases List.mem_append.1 he with he | he
      · exact ubE_le hcl e (List.mem_of_mem_take he)
      · rcases List.mem_cons.1 he with rfl | he
        · exact ⟨by show ub kx ≤ _; omega, by show ub v ≤ _; omega⟩
        · exact ubE_le hcl e (List.mem_of_mem_drop he)) h
    refine ⟨⟨by omega, p5⟩, fun φ w x' k' v' hm hb hx hk hv => ?_⟩
    obtain ⟨l, es', ckk, hl, rfl, hw0, her, hst⟩ := map_block hm.part hx hg
    have := vr_key hc.2 (hkx ▸ kix_sim (len := 9) hk)
    subst this
    obtain ⟨r', g1, g2⟩ := find_sim her hf
    cases r' with
    | none => exact g2.elim
    | some q =>
    obtain ⟨j', u⟩ := q
    obtain ⟨rfl, _, _, _⟩ := g2
    obtain ⟨e', t1, t2, t3, t5⟩ := her.at_ i e0 he0
    have t1' : es'[i]? = some e' := by simpa using t1
    obtain ⟨hke, hsb⟩ := lkey_eq hkey 9999
    have hkts : (Instr.keyThatStays (((es'[i]?).map (·.key)).getD k') k').run P w = .ok k' w := by
      simp [Instr.keyThatStays, t1', t2, hke]
      rw [hke] at hsb
      simp [hsb]
    have hrow : ERow φ (es.take i ++ { key := k', val := v, born := 0 } :: es.drop (i + 1)) (es'.modify i fun e => { e with key := k', val := v' }).toList := by
      have hlen := her.len
      have hilt' : i < es'.size := by simp at hlen; omega
      refine ⟨by simp at hlen ⊢; omega, fun j e hj => ?_⟩
      simp only [Array.toList_modify]
      by_cases hji : j = i
      · subst hji
        have hl2 : (es.take j).length = j := by rw [List.length_take]; omega
        rw [List.getElem?_append_right (by omega), hl2, Nat.sub_self] at hj
        simp at hj
        subst hj
        refine ⟨{ e' with key := k', val := v' }, ?_, rfl, ?_, hv⟩
        · rw [List.getElem?_modify_eq, t1]; rfl
        · rw [← hke]; exact t3
      · have hj' : es[j]? = some e := by
          by_cases hlt : j < i
          · rw [List.getElem?_append_left (by simp; omega), List.getElem?_take_of_lt hlt] at hj; exact hj
          · rw [List.getElem?_append_right (by simp; omega)] at hj
            have hl2 : (es.take i).length = i := by simp; omega
            rw [hl2, show j - i = (j - i - 1) + 1 by omega] at hj
            simp only [List.getElem?_cons_succ, List.getElem?_drop] at hj
            rw [show i + 1 + (j - i - 1) = j by omega] at hj
            exact hj
        obtain ⟨e2, b1, b2, b3, b5⟩ := her.at_ j e hj'
        refine ⟨e2, ?_, b2, b3, b5⟩
        rw [List.getElem?_modify, b1]; simp [show ¬ i = j from Ne.symm hji]
    obtain ⟨z1, z2, z3⟩ := map_replace (es1' := es'.modify i fun e => { e with key := k', val := v' }) hm hb hl hw0 p3 p4 p1 hrow (hst.modify t1' (t2.trans hke))
    refine ⟨_, φ, ?_, z1, z2, z3⟩
    simp only [Instr.mapUpdate, Sem.run_bind, run_underlying ht, Result.andThen_ok, run_getObj_map hw0, run_checkKey hkd hc.1, run_findKey hkd g1, hkts, run_setObj hw0]
  · rename_i hf
    obtain ⟨p1, p2, p3, p4, p5⟩ := LMem.put_spec (b := .map (es ++ [{ key := kx, val := v, born := 0 }]) 0) hw (fun hu => by
      have q1 := le_lmax_left (ub kx) (ub v)
      have q2 := le_lmax_right (ub kx) (ub v)
      refine ubE_of fun e he => ?_
      rcases List.mem_append.1 he with he | he
      · exact ubE_le hcl e he
      · simp at he; subst he; exact ⟨by show ub kx ≤ _; omega, by show ub v ≤ _; omega⟩) h
    refine ⟨⟨by omega, p5⟩, fun φ w x' k' v' hm hb hx hk hv => ?_⟩
    obtain ⟨l, es', ckk, hl, rfl, hw0, her, hst⟩ := map_block hm.part hx hg
    have := vr_key hc.2 (hkx ▸ kix_sim (len := 9) hk)
    subst this
    obtain ⟨r', g1, g2⟩ := find_sim her hf
    cases r' with
    | some q => exact g2.elim
    | none =>
    have hk0 : ub k' = 0 := by cases k' <;> first | rfl | (simp [isKey] at hc)
    have hrow : ERow φ (es ++ [{ key := k', val := v, born := 0 }]) (es'.push { key := k', val := v', born := ckk }).toList := by
      have hlen := her.len
      refine ⟨by simp at hlen ⊢; omega, fun j e hj => ?_⟩
      simp only [Array.toList_push]
      by_cases hlt : j < es.length
      · rw [List.getElem?_append_left hlt] at hj
        obtain ⟨e2, b1, b2, b3, b5⟩ := her.at_ j e hj
        exact ⟨e2, by rw [List.getElem?_append_left (by omega)]; exact b1, b2, b3, b5⟩
      · rw [List.getElem?_append_right (by omega)] at hj
        have hj0 : j = es.length := by
          have := (List.getElem?_eq_some_iff.1 hj).1
          simp at this; omega
        subst hj0
        simp at hj; subst hj
        exact ⟨{ key := k', val := v', born := ckk }, by rw [List.getElem?_append_right (by omega), ← hlen]; simp, rfl, hk0, hv⟩
    obtain ⟨z1, z2, z3⟩ := map_replace (es1' := es'.push { key := k', val := v', born := ckk }) hm hb hl hw0 p3 p4 p1 hrow (hst.push (her.keys (lfind_none hf)))
    refine ⟨_, φ, ?_, z1, z2, z3⟩
    simp only [Instr.mapUpdate, Sem.run_bind, run_underlying ht, Result.andThen_ok, run_getObj_map hw0, run_checkKey hkd hc.1, run_findKey hkd g1, run_setObj hw0]
  · cases h

theorem delete_sim {m m' : LMem} {t u ty : TypeId} {x k : Value} (hw : WF m) (h : ldelete P t x k m = some m') :
    (m.next ≤ m'.next ∧ WF m') ∧ ∀ φ w x' k', MR φ m.get w → Bd φ m.next → VR φ x x' → VR φ k k' → Good m m' (.tuple #[]) φ w ((Builtin.delete_ #[t, u] ty #[x', k']).run P w) := by
  unfold ldelete at h
  split at h
  case h_2 => cases h
  rename_i kt et r ht
  split at h
  case h_3 => cases h
  case h_2 =>
    rename_i n s kd hg hkd
    cases hc : (isIntD kd && isScP k) with
    | false => rw [hc] at h; cases h
    | true =>
    rw [hc] at h
    rw [Bool.and_eq_true] at hc
    simp only [cond_true] at h
    split at h
    case h_2 => cases h
    rename_i kf s' hl
    exact mp_delete (P := P) ht hkd hc.1 hc.2 hg hl hw h
  rename_i es ck kd hg hkd
  generalize hkx : kix 9 k = kx at h
  cases hc : (isKeyD kd && isKey kx) with
  | false => simp [hc] at h
  | true =>
  simp only [hc, cond_true] at h
  rw [Bool.and_eq_true] at hc
  have hcl : ubE es ≤ m.next := hw.closed r _ hg
  split at h
  · rename_i i v0 hf
    obtain ⟨e0, he0, _, hkey⟩ := lfind_key hf
    rw [Nat.sub_zero] at he0
    have hilt : i < es.length := (List.getElem?_eq_some_iff.1 he0).1
    obtain ⟨p1, p2, p3, p4, p5⟩ := LMem.put_spec (b := .map (es.take i ++ es.drop (i + 1)) 0) hw (fun _ => by
      refine ubE_of fun e he => ?_
      rcases List.mem_append.1 he with he | he
      · exact ubE_le hcl e (List.mem_of_mem_take he)
      · exact ubE_le hcl e (List.mem_of_mem_drop he)) h
    refine ⟨⟨by omega, p5⟩, fun φ w x' k' hm hb hx hk => ?_⟩
    obtain ⟨l, es', ckk, hl, rfl, hw0, her, hst⟩ := map_block hm.part hx hg
    have := vr_key hc.2 (hkx ▸ kix_sim (len := 9) hk)
    subst this
    obtain ⟨r', g1, g2⟩ := find_sim her hf
    cases r' with
    | none => exact g2.elim
    | some q =>
    obtain ⟨j', u'⟩ := q
    obtain ⟨rfl, _, _, _⟩ := g2
    have hlen := her.len
    have hrow : ERow φ (es.take i ++ es.drop (i + 1)) (es'.eraseIdxIfInBounds i).toList := by
      have hE : (es'.eraseIdxIfInBounds i).toList = es'.toList.take i ++ es'.toList.drop (i + 1) := by
        rw [Array.toList_eraseIdxIfInBounds, List.eraseIdx_eq_take_drop_succ]
      rw [hE]
      refine ⟨by simp at hlen ⊢; omega, fun j e hj => ?_⟩
      have hl1 : (es.take i).length = i := by simp; omega
      have hl2 : (es'.toList.take i).length = i := by simp at hlen ⊢; omega
      by_cases hlt : j < i
      · rw [List.getElem?_append_left (by omega), List.getElem?_take_of_lt hlt] at hj
        obtain ⟨e2, b1, b2⟩ := her.at_ j e hj
        exact ⟨e2, by rw [List.getElem?_append_left (by omega), List.getElem?_take_of_lt hlt]; exact b1, b2⟩
      · rw [List.getElem?_append_right (by omega), hl1, List.getElem?_drop] at hj
        obtain ⟨e2, b1, b2⟩ := her.at_ _ e hj
        exact ⟨e2, by rw [List.getElem?_append_right (by omega), hl2, List.getElem?_drop]; exact b1, b2⟩
    obtain ⟨z1, z2, z3⟩ := map_replace (es1' := es'.eraseIdxIfInBounds i) hm hb hl hw0 p3 p4 p1 hrow hst.erase
    refine ⟨.tuple #[], _, φ, ?_, z1, .tuple _ _ .nil, z2, z3⟩
    simp [Builtin.delete_, run_underlying ht, run_getObj_map hw0, run_checkKey hkd hc.1, run_findKey hkd g1, run_setObj hw0]
  · rename_i hf
    obtain ⟨p1, p2, p3, p4, p5⟩ := LMem.put_spec (b := .map es 0) hw (fun _ => hcl) h
    refine ⟨⟨by omega, p5⟩, fun φ w x' k' hm hb hx hk => ?_⟩
    obtain ⟨l, es', ckk, hl, rfl, hw0, her, hst⟩ := map_block hm.part hx hg
    have := vr_key hc.2 (hkx ▸ kix_sim (len := 9) hk)
    subst this
    obtain ⟨r', g1, g2⟩ := find_sim her hf
    cases r' with
    | some q => exact g2.elim
    | none =>
    obtain ⟨z1, z2, z3⟩ := map_replace (es1' := es') hm hb hl hw0 p3 p4 p1 her hst
    refine ⟨.tuple #[], _, φ, ?_, z1, .tuple _ _ .nil, z2, z3⟩
    simp [Builtin.delete_, run_underlying ht, run_getObj_map hw0, run_checkKey hkd hc.1, run_findKey hkd g1, run_setObj hw0]
  · cases h

theorem clear_sim {m m' : LMem} {t ty : TypeId} {x : Value} (hw : WF m) (h : lclear P t x m = some m') :
    (m.next ≤ m'.next ∧ WF m') ∧ ∀ φ w x', MR φ m.get w → Bd φ m.next → VR φ x x' → Good m m' (.tuple #[]) φ w ((Builtin.clear_ #[t] ty #[x']).run P w) := by
  unfold lclear at h
  split at h
  · rename_i e b off sp n cp ht
    split at h
    case h_2 => cases h
    rename_i ie hie
    split at h
    case h_2 => cases h
    rename_i z hz
    cases hq : (Nat.beq (ub z) 0 && Nat.beq z.cells.toList.length ie.size && Nat.ble 1 ie.size && Nat.ble 1 n) with
    | true =>
      simp only [hq, cond_true] at h
      simp only [Bool.and_eq_true] at hq
      obtain ⟨⟨⟨k1, k2⟩, k3⟩, k4⟩ := hq
      have k1 := Nat.eq_of_beq_eq_true k1
      have k2 := Nat.eq_of_beq_eq_true k2
      have k3 := Nat.le_of_ble_eq_true k3
      have k4 := Nat.le_of_ble_eq_true k4
      have k2' : z.cells.size = ie.size := by simpa using k2
      obtain ⟨c0, s1, s2, s3, s4, s5, s6, s7⟩ := store_wf hw h
      refine ⟨⟨by omega, s6⟩, fun φ w x' hm hb hx => ?_⟩
      have hz0 : (Builtin.zeroCells z.cells n).toList = lzeros z.cells.toList n := zero_cells z.cells (by omega) n _ rfl
      cases hx with
      | sdead _ _ _ _ _ cap' a hl =>
        cases hm.deadB s1 hl (fun _ _ _ h => by cases h)
      | szero => omega
      | slice _ _ _ _ _ cap' l hl hlen hcap hex hsz =>
        obtain ⟨l', w', hl', hrun, hsim, hmr⟩ := store_sim (P := P) (vs' := lzeros z.cells.toList n) hw h hm (by rw [hl]; simp) (VRL.zeros k1 n)
        rw [hl] at hl'; cases hl'
        refine ⟨.tuple #[], w', φ, ?_, hsim, .tuple _ _ .nil, hmr, by rw [s7]; exact hb⟩
        cases n with
        | zero => omega
        | succ n => simp [Builtin.clear_, run_underlying ht, run_zeroValue' hie hz, hz0, hrun]
    | false =>
      simp only [hq, cond_false] at h
      cases hn : Nat.beq n 0 with
      | false => simp [hn] at h
      | true =>
        simp only [hn, cond_true, Option.some.injEq] at h
        subst h
        have := Nat.eq_of_beq_eq_true hn
        subst this
        refine ⟨⟨Nat.le_refl _, hw⟩, fun φ w x' hm hb hx => ⟨.tuple #[], w, φ, ?_, Sim.refl _ φ w, .tuple _ _ .nil, hm, hb⟩⟩
        cases hx <;> simp [Builtin.clear_, run_underlying ht]
  · rename_i e n cp ht
    cases h
    refine ⟨⟨Nat.le_refl _, hw⟩, fun φ w x' hm hb hx => ⟨.tuple #[], w, φ, ?_, Sim.refl _ φ w, .tuple _ _ .nil, hm, hb⟩⟩
    cases hx; simp [Builtin.clear_, run_underlying ht]
  · cases h

structure POK (P : Program) (X : ExtT) : Prop where
  num : ∀ (f : FuncId) (fn : Func), P.funcs[f]? = some fn → (fn.name == "runtime.NumGoroutine") = false
  add : ∀ args v w, ladd args = some v → (callFunc X.add ⟨args⟩).run P w = .ok (.value v) w
  sub : ∀ args v w, lsub args = some v → (callFunc X.sub ⟨args⟩).run P w = .ok (.value v) w
  mixed : P.follows .mixedOrders = true
  clone : ∀ fn, P.funcs[X.clone]? = some fn → ∀ t r w es ck, w.heap[r]? = some (.map es ck) → (callFunc X.clone ⟨[.iface t (.map (some r))]⟩).run P w = .ok (.value (.iface t (.map (some w.heap.size)))) (w.alloc (.map es ck))

/-- what a logical effect means -/
def LNR (m m' : LMem) (r : LN) (φ : Phi) (w : World) (res : Result Next) : Prop :=
  match r with
  | .val v => Eff m m' v φ w res
  | .enter f args => m' = m ∧ ∃ args', res = .ok (.enter f args') w ∧ VRL φ args args'.toList

theorem ladd_val {args : List Value} {v : Value} (h : ladd args = some v) : ub v = 0 := by
  have _s := SymV.val
  unfold ladd at h
  split at h
  · rename_i k1 x k2 y k3 c
    cases hc : Nat.ble c.toNat 1 with
    | false => simp [hc] at h
    | true => simp only [hc, cond_true, Option.some.injEq] at h; subst h; rfl
  · cases h
theorem lsub_val {args : List Value} {v : Value} (h : lsub args = some v) : ub v = 0 := by
  have _s := SymV.val
  unfold lsub at h
  split at h
  · rename_i k1 x k2 y k3 c
    cases hc : Nat.ble c.toNat 1 with
    | false => simp [hc] at h
    | true => simp only [hc, cond_true, Option.some.injEq] at h; subst h; rfl
  · cases h

theorem ladd_eq {φ : Phi} {args : List Value} {args' : List Value} {v : Value} (h : ladd args = some v) (ha : VRL φ args args') : args' = args := by
  have _s := SymV.val
  have _s := SymV.val
  unfold ladd at h
  split at h
  · cases ha with | cons _ _ _ _ h1 ha => cases ha with | cons _ _ _ _ h2 ha => cases ha with | cons _ _ _ _ h3 ha => cases ha; cases h1; cases h2; cases h3; rfl
  · cases h
theorem lsub_eq {φ : Phi} {args : List Value} {args' : List Value} {v : Value} (h : lsub args = some v) (ha : VRL φ args args') : args' = args := by
  have _s := SymV.val
  unfold lsub at h
  split at h
  · cases ha with | cons _ _ _ _ h1 ha => cases ha with | cons _ _ _ _ h2 ha => cases ha with | cons _ _ _ _ h3 ha => cases ha; cases h1; cases h2; cases h3; rfl
  · cases h

theorem m64_is : Extern.MathBitsCarry.m64 = 18446744073709551616 := by
  have _s := SymV.val
  decide
theorem ladd_is (kx ky kc : IntKind) (x y c : Int) : ladd [.int kx x, .int ky y, .int kc c] = bif Nat.ble c.toNat 1 then some (Extern.MathBitsCarry.pair (adN false x.toNat y.toNat c.toNat) (adN true x.toNat y.toNat c.toNat)) else none := by
  unfold ladd adN
  rw [m64_is]
theorem lsub_is (kx ky kc : IntKind) (x y c : Int) : lsub [.int kx x, .int ky y, .int kc c] = bif Nat.ble c.toNat 1 then some (Extern.MathBitsCarry.pair (sbN false x.toNat y.toNat c.toNat) (sbN true x.toNat y.toNat c.toNat)) else none := by
  unfold lsub sbN
  rw [m64_is]
theorem pair_den {x y c : Value} {a b : Value} (ha : sev (.ad false) [x, y, c] = some a) (hb : sev (.ad true) [x, y, c] = some b) : ladd [x, y, c] = some (.tuple ⟨[a, b]⟩) := by
  cases x with
  | int kx x => cases y with
    | int ky y => cases c with
      | int kc c =>
        have ha' : (bif Nat.ble c.toNat 1 then some (Value.int .u64 (Int.ofNat (adN false x.toNat y.toNat c.toNat))) else none) = some a := ha
        have hb' : (bif Nat.ble c.toNat 1 then some (Value.int .u64 (Int.ofNat (adN true x.toNat y.toNat c.toNat))) else none) = some b := hb
        clear ha hb
        rw [ladd_is]
        generalize adN false x.toNat y.toNat c.toNat = A at ha' ⊢
        generalize adN true x.toNat y.toNat c.toNat = B at hb' ⊢
        cases hc : Nat.ble c.toNat 1 with
        | false => rw [hc] at ha'; cases ha'
        | true =>
          rw [hc] at ha' hb'
          cases ha'
          cases hb'
          rfl
      | _ => cases ha
    | _ => cases ha
  | _ => cases ha
theorem spair_den {x y c : Value} {a b : Value} (ha : sev (.sb false) [x, y, c] = some a) (hb : sev (.sb true) [x, y, c] = some b) : lsub [x, y, c] = some (.tuple ⟨[a, b]⟩) := by
  cases x with
  | int kx x => cases y with
    | int ky y => cases c with
      | int kc c =>
        have ha' : (bif Nat.ble c.toNat 1 then some (Value.int .u64 (Int.ofNat (sbN false x.toNat y.toNat c.toNat))) else none) = some a := ha
        have hb' : (bif Nat.ble c.toNat 1 then some (Value.int .u64 (Int.ofNat (sbN true x.toNat y.toNat c.toNat))) else none) = some b := hb
        clear ha hb
        rw [lsub_is]
        generalize sbN false x.toNat y.toNat c.toNat = A at ha' ⊢
        generalize sbN true x.toNat y.toNat c.toNat = B at hb' ⊢
        cases hc : Nat.ble c.toNat 1 with
        | false => rw [hc] at ha'; cases ha'
        | true =>
          rw [hc] at ha' hb'
          cases ha'
          cases hb'
          rfl
      | _ => cases ha
    | _ => cases ha
  | _ => cases ha
theorem laddS_ok {φ : Phi} {args args' : List Value} {v : Value} (h : laddS args = some v) (ha : VRL φ args args') : ∃ v', ladd args' = some v' ∧ VR φ v v' := by
  unfold laddS at h
  split at h
  · rename_i v0 hv
    cases h
    rw [ladd_eq hv ha]
    exact ⟨v, hv, VR.refl 7 v (ladd_val hv)⟩
  · split at h
    case h_2 => cases h
    rename_i x y c
    split at h
    case h_2 => cases h
    rename_i a ha1
    split at h
    case h_2 => cases h
    rename_i b hb1
    cases h
    obtain ⟨s1, s2, s3⟩ := slk_spec SymV.ok ha1
    obtain ⟨_, t2, t3⟩ := slk_spec SymV.ok hb1
    rw [VRL.denP s1 ha]
    exact ⟨_, pair_den s3 t3, .tuple _ _ (.cons _ _ _ _ (VR.of_den s2) (.cons _ _ _ _ (VR.of_den t2) .nil))⟩
theorem lsubS_ok {φ : Phi} {args args' : List Value} {v : Value} (h : lsubS args = some v) (ha : VRL φ args args') : ∃ v', lsub args' = some v' ∧ VR φ v v' := by
  unfold lsubS at h
  split at h
  · rename_i v0 hv
    cases h
    rw [lsub_eq hv ha]
    exact ⟨v, hv, VR.refl 7 v (lsub_val hv)⟩
  · split at h
    case h_2 => cases h
    rename_i x y c
    split at h
    case h_2 => cases h
    rename_i a ha1
    split at h
    case h_2 => cases h
    rename_i b hb1
    cases h
    obtain ⟨s1, s2, s3⟩ := slk_spec SymV.ok ha1
    obtain ⟨_, t2, t3⟩ := slk_spec SymV.ok hb1
    rw [VRL.denP s1 ha]
    exact ⟨_, spair_den s3 t3, .tuple _ _ (.cons _ _ _ _ (VR.of_den s2) (.cons _ _ _ _ (VR.of_den t2) .nil))⟩

theorem clone_sim {X : ExtT} (hP : POK P X) {m m' : LMem} {fn : Func} (hfn : P.funcs[X.clone]? = some fn) {args : List Value} {r : LN} (hw : WF m) (h : lclone args m = some (r, m')) :
    (m.next ≤ m'.next ∧ WF m') ∧ ∀ φ w args', MR φ m.get w → Bd φ m.next → VRL φ args args' → LNR m m' r φ w ((callFunc X.clone ⟨args'⟩).run P w) := by
  unfold lclone at h
  split at h
  case h_2 => cases h
  rename_i t q
  split at h
  case h_3 => cases h
  case h_2 =>
    rename_i k s hq
    simp only [Option.map_eq_some_iff, Prod.mk.injEq] at h
    obtain ⟨m1, ha, rfl, rfl⟩ := h
    obtain ⟨a1, a2, a3, a4⟩ := LMem.alloc_spec hw ha
    refine ⟨⟨by omega, a4⟩, fun φ w args' hm hb hv => ?_⟩
    cases hv with
    | cons _ y _ ys h1 h2 =>
    cases h2
    cases h1 with
    | iface _ _ y hy =>
    have key : ∀ l, φ q = some (some l) → y = .map (some l.b) → LNR m m1 (.val (.iface t (.map (some m.next)))) φ w ((callFunc X.clone ⟨[.iface t y]⟩).run P w) := by
      rintro l hl rfl
      obtain ⟨B, hB, hbr⟩ := hm.live q l hl
      rw [hq] at hB; cases hB
      obtain ⟨es', ck, rs, e1, e2⟩ := hbr
      obtain ⟨q1, q2, q3, _, _⟩ := alloc_world (w0 := w) (l := ⟨w.heap.size, 0, 0, 0, 0⟩) (obj := .map es' ck) hw hm hb ha rfl rfl rfl rfl rfl
        ⟨es', ck, rs, heap_alloc_new w _, e2⟩
      exact ⟨_, _, _, .inl (hP.clone fn hfn t l.b w es' ck e1), q1, .iface _ _ _ (.map m.next ⟨w.heap.size, 0, 0, 0, 0⟩ (ins_same _ _ _)), q2, q3⟩
    cases hy with
    | map _ l hl => exact key l hl rfl
    | mdead _ r' hl => cases hm.deadB hq hl (fun _ _ _ h => by cases h)
  rename_i es ck hq
  simp only [Option.map_eq_some_iff, Prod.mk.injEq] at h
  obtain ⟨m1, ha, rfl, rfl⟩ := h
  obtain ⟨a1, a2, a3, a4⟩ := LMem.alloc_spec hw ha
  refine ⟨⟨by omega, a4⟩, fun φ w args' hm hb hv => ?_⟩
  cases hv with
  | cons _ y _ ys h1 h2 =>
  cases h2
  cases h1 with
  | iface _ _ y hy =>
  have key : ∀ l, φ q = some (some l) → y = .map (some l.b) → LNR m m1 (.val (.iface t (.map (some m.next)))) φ w ((callFunc X.clone ⟨[.iface t y]⟩).run P w) := by
    rintro l hl rfl
    obtain ⟨B, hB, hbr⟩ := hm.live q l hl
    rw [hq] at hB; cases hB
    obtain ⟨es', ck', e1, e2, e0⟩ := hbr
    have hnx : φ m.next = none := hb.none (Nat.le_refl _)
    obtain ⟨q1, q2, q3, _, _⟩ := alloc_world (w0 := w) (l := ⟨w.heap.size, 0, 0, 0, 0⟩) (obj := .map es' ck') hw hm hb ha rfl rfl rfl rfl rfl
      ⟨es', ck', heap_alloc_new w _, ⟨e2.len, fun i e he => by
        obtain ⟨e', f1, f2, f3, f5⟩ := e2.at_ i e he
        exact ⟨e', f1, f2, f3, f5.mono (ins_ext hnx)⟩⟩, e0⟩
    exact ⟨_, _, _, .inl (hP.clone fn hfn t l.b w es' ck' e1), q1, .iface _ _ _ (.map m.next ⟨w.heap.size, 0, 0, 0, 0⟩ (ins_same _ _ _)), q2, q3⟩
  cases hy with
  | map _ l hl => exact key l hl rfl
  | mdead _ r' hl => cases hm.deadB hq hl (fun _ _ _ h => by cases h)

theorem callF_sim {X : ExtT} (hP : POK P X) {m m' : LMem} {f : FuncId} {args : List Value} {r : LN} (hw : WF m) (h : lcallF P X f args m = some (r, m')) :
    (m.next ≤ m'.next ∧ WF m') ∧ ∀ φ w args', MR φ m.get w → Bd φ m.next → VRL φ args args' → LNR m m' r φ w ((callFunc f ⟨args'⟩).run P w) := by
  unfold lcallF at h
  cases ha : Nat.beq f X.add with
  | true =>
    simp only [ha, cond_true, Option.map_eq_some_iff, Prod.mk.injEq] at h
    obtain ⟨v, hv, rfl, rfl⟩ := h
    have := Nat.eq_of_beq_eq_true ha
    subst this
    refine ⟨⟨Nat.le_refl _, hw⟩, fun φ w args' hm hb hargs => ?_⟩
    obtain ⟨v', h1, h2⟩ := laddS_ok hv hargs
    exact ⟨v', w, φ, .inl (hP.add _ v' w h1), Sim.refl _ φ w, h2, hm, hb⟩
  | false =>
    simp only [ha, cond_false] at h
    cases hs : Nat.beq f X.sub with
    | true =>
      simp only [hs, cond_true, Option.map_eq_some_iff, Prod.mk.injEq] at h
      obtain ⟨v, hv, rfl, rfl⟩ := h
      have := Nat.eq_of_beq_eq_true hs
      subst this
      refine ⟨⟨Nat.le_refl _, hw⟩, fun φ w args' hm hb hargs => ?_⟩
      obtain ⟨v', h1, h2⟩ := lsubS_ok hv hargs
      exact ⟨v', w, φ, .inl (hP.sub _ v' w h1), Sim.refl _ φ w, h2, hm, hb⟩
    | false =>
      simp only [hs, cond_false] at h
      cases hcl : Nat.beq f X.clone with
      | true =>
        simp only [hcl, cond_true] at h
        have := Nat.eq_of_beq_eq_true hcl
        subst this
        split at h
        · rename_i fn hfn
          exact clone_sim hP hfn hw h
        · cases h
      | false =>
        simp only [hcl, cond_false] at h
        split at h
        case h_2 => cases h
        rename_i fn hf
        split at h
        case h_2 => cases h
        rename_i c hc
        simp only [Option.some.injEq, Prod.mk.injEq] at h
        obtain ⟨rfl, rfl⟩ := h
        refine ⟨⟨Nat.le_refl _, hw⟩, fun φ w args' hm hb hargs => ⟨rfl, ⟨args'⟩, ?_, hargs⟩⟩
        have hn := hP.num f fn hf
        simp only [callFunc, Sem.run_bind, run_program, Result.andThen_ok, hf]
        simp [hn, hc]

theorem find_list {α : Type} (a : Array α) (p : α → Bool) : a.find? p = a.toList.find? p := by
  have _s := SymV.val
  simp

theorem invoke_sim {X : ExtT} (hP : POK P X) {m m' : LMem} {recv : Value} {name : String} {args : List Value} {r : LN} (hw : WF m) (h : linvoke P X recv name args m = some (r, m')) :
    (m.next ≤ m'.next ∧ WF m') ∧ ∀ φ w recv' args', MR φ m.get w → Bd φ m.next → VR φ recv recv' → VRL φ args args' → LNR m m' r φ w ((callMethod recv' name ⟨args'⟩).run P w) := by
  unfold linvoke at h
  split at h
  case h_2 => cases h
  rename_i t v
  split at h
  case h_2 => cases h
  rename_i i d hi hd
  split at h
  case h_2 => cases h
  rename_i me hme
  split at h
  case h_2 => cases h
  rename_i f p hpath hfunc
  cases hp : (isPtrD d == p) with
  | false => simp [hp] at h
  | true =>
    simp only [hp, cond_true] at h
    have hp' : isPtrD d = p := by simpa using hp
    obtain ⟨g1, g2⟩ := callF_sim hP hw h
    refine ⟨g1, fun φ w recv' args' hm hb hr hargs => ?_⟩
    cases hr with
    | iface _ _ v' hv =>
    have hcall := g2 φ w (v' :: args') hm hb (.cons _ _ _ _ hv hargs)
    have hmeth : ∀ n, (method (n + 1) t v' name).run P w = .ok (f, v') w := by
      intro n
      have hfind : i.methods.find? (fun x => x.name == name) = some me := by rw [find_list]; exact hme
      simp only [method, Sem.run_bind, run_typeInfo' hi, Result.andThen_ok, hfind, hpath, follow, Sem.run_pure, hfunc]
      have hrec : ∀ wr, (receiverAt t (.val v') p wr).run P w = .ok v' w := by
        intro wr
        subst hp'
        cases d <;> simp [receiverAt, run_underlying hd, isPtrD, Place.get]
      simp [hrec]
    have : (callMethod (.iface t v') name ⟨args'⟩).run P w = (callFunc f ⟨v' :: args'⟩).run P w := by
      simp only [callMethod, Sem.run_bind, run_program, Result.andThen_ok]
      rw [show P.types.size + Made.depth = (P.types.size + 99) + 1 from rfl, hmeth]
      simp
    rw [this]; exact hcall

theorem freeze_heap (w : World) (b n : Nat) (j : Nat) : (w.freeze ⟨b, n, none⟩ 1).heap[j]? = if b = j then (w.heap[j]?).map (fun
      | .cells c elem (lo, hi) => .cells c elem (if lo == hi then (n, n + 1) else (min lo n, max hi (n + 1)))
      | o => o) else w.heap[j]? := by
  have _s := SymV.val
  unfold World.freeze
  rw [if_neg (by decide)]
  show (w.heap.modify b _)[j]? = _
  rw [Array.getElem?_modify]
  split
  · cases w.heap[j]? with
    | none => rfl
    | some o => cases o <;> rfl
  · rfl

theorem mark_sim {m m' : LMem} {id : Nat} {c : List Value} {φ : Phi} {w : World} {l : Loc} (o : Nat) (hw : WF m) (hg : lcells m.get id = some c) (hp : m.put id 0 (.ro c) = some m') (hm : MR φ m.get w) (hl : φ id = some (some l)) :
    ∃ w', (markStringish ⟨l.b, o, none⟩).run P w = .ok () w' ∧ Sim m.next φ φ w w' ∧ MR φ m'.get w' := by
  have hub : ubB (.ro c) ≤ m.next := by
    unfold lcells at hg
    split at hg
    · rename_i c' hc; cases hg; exact (hw.closed id (.cells c) hc : ubs c ≤ m.next)
    · rename_i c' hc; cases hg; exact hw.closed id (.ro c) hc
    · cases hg
  obtain ⟨p1, p2, p3, p4, p5⟩ := LMem.put_spec hw (fun _ => hub) hp
  obtain ⟨B, hB, hbr⟩ := hm.live id l hl
  have hrd : BRr φ c l w := by
    unfold lcells at hg
    rw [hB] at hg
    cases B with
    | cells c' => cases hg; exact BR.rd (.inl hbr)
    | ro c' => cases hg; exact BR.rd (.inr hbr)
    | map _ _ => cases hg
    | lst _ => cases hg
    | mp _ _ => cases hg
    | dead => cases hg
  obtain ⟨c', e, fz, g1, g2, g3, g4⟩ := hrd
  obtain ⟨lo, hi⟩ := fz
  have hsh : w.shape? l.b = some (e, c'.size) := by unfold World.shape?; rw [g1]
  refine ⟨w.freeze ⟨l.b, c'.size, none⟩ 1, ?_, ?_, ?_⟩
  · have h1 : (shape l.b).run P w = .ok (w.shape? l.b) w := rfl
    unfold markStringish
    simp only [Sem.run_bind, h1, hsh, Result.andThen_ok]
    rfl
  · refine ⟨Ext.refl φ, fun jd x h => .inl ⟨jd, x, h, rfl⟩, fun _ _ h => h, fun _ _ h => .inl h, ⟨?_, ?_, ?_, ?_, fun b hb hne => ?_⟩⟩
    · unfold World.freeze; rw [if_neg (by decide)]
    · unfold World.freeze; rw [if_neg (by decide)]
    · unfold World.freeze; rw [if_neg (by decide)]
    · unfold World.freeze; rw [if_neg (by decide)]; simp
    · rw [freeze_heap, if_neg (fun h => hne id l hl h)]
  · refine ⟨fun jd x h => ?_, fun jd h hn => ?_, fun jd h hn => ?_, hm.inj, hm.pin.at fun b _ hne => by rw [freeze_heap, if_neg (fun h => hne id l hl h)]⟩
    · by_cases hj : jd = id
      · subst hj
        rw [hl] at h; cases h
        refine ⟨.ro c, p3, c', e, (if lo == hi then (c'.size, c'.size + 1) else (min lo c'.size, max hi (c'.size + 1))), ?_, g2, g3, g4⟩
        rw [freeze_heap, if_pos rfl, g1]
        rfl
      · obtain ⟨b, h1, h2⟩ := hm.live jd x h
        refine ⟨b, by rw [p4 jd hj]; exact h1, h2.mono (Ext.refl φ) ?_⟩
        rw [freeze_heap, if_neg]
        intro he
        exact hj (hm.inj jd id x l h hl he.symm)
    · rw [p4 jd (fun hj => by subst hj; rw [hl] at h; cases h)]
      exact hm.dead jd h hn
    · rw [p4 jd (fun hj => by subst hj; rw [hl] at h; cases h)]
      exact hm.nils jd h hn

theorem lmark_sim {m m' : LMem} {src dst : TypeId} {x v : Value} (hw : WF m) (h : lmark P src dst x m = some (v, m')) :
    (m.next ≤ m'.next ∧ WF m') ∧ ∀ φ w x', MR φ m.get w → Bd φ m.next → VR φ x x' → Good m m' v φ w ((convert src dst x').run P w) := by
  have plain : (lconv P m.get src dst x).map (fun v => (v, m)) = some (v, m') → (m.next ≤ m'.next ∧ WF m') ∧ ∀ φ w x', MR φ m.get w → Bd φ m.next → VR φ x x' → Good m m' v φ w ((convert src dst x').run P w) := by
    intro h
    simp only [Option.map_eq_some_iff, Prod.mk.injEq] at h
    obtain ⟨v0, hq, rfl, rfl⟩ := h
    refine ⟨⟨Nat.le_refl _, hw⟩, fun φ w x' hm hb hx => ?_⟩
    obtain ⟨v', g1, g2⟩ := conv_sim (P := P) hm.part hm.pin hq hx
    exact ⟨v', w, φ, g1, Sim.refl _ φ w, g2, hm, hb⟩
  unfold lmark at h
  split at h
  · rename_i a len cap
    split at h
    · rename_i e0 e hs hd
      split at h
      · rename_i c he hc
        cases hsd : Nat.beq src dst with
        | false => rw [hsd] at h; cases h
        | true =>
          rw [hsd] at h
          simp only [cond_true, Option.map_eq_some_iff, Prod.mk.injEq] at h
          obtain ⟨m1, hp, rfl, rfl⟩ := h
          have hsd' := Nat.eq_of_beq_eq_true hsd
          subst hsd'
          have hub : ubB (.ro c) ≤ m.next := by
            unfold lcells at hc
            split at hc
            · rename_i c' hcc; cases hc; exact (hw.closed _ (.cells c) hcc : ubs c ≤ m.next)
            · rename_i c' hcc; cases hc; exact hw.closed _ (.ro c) hcc
            · cases hc
          obtain ⟨p1, p2, p3, p4, p5⟩ := LMem.put_spec hw (fun _ => hub) hp
          refine ⟨⟨by omega, p5⟩, fun φ w x' hm hb hx => ?_⟩
          obtain ⟨l, o, cp', hl, rfl, ho, hbr⟩ := slice_cells hm.part hx hc
          obtain ⟨w', h1, h2, h3⟩ := mark_sim (P := P) o hw hc hp hm hl
          refine ⟨.slice (some ⟨l.b, o, none⟩) len cp', w', φ, ?_, h2, hx, h3, fun id h => by rw [p1]; exact hb id h⟩
          have hse : e0 = e := by rw [hs] at hd; cases hd; rfl
          subst hse
          simp only [convert, Sem.run_bind, run_underlying hs, run_underlying he, Result.andThen_ok, beq_self_eq_true]
          simp [h1]
      · cases h
    · exact plain h
  · exact plain h

theorem esim {X : ExtT} (hP : POK P X) {m m' : LMem} {o : Oper} {ρ : Operand → Value} {r : LN} (hw : WF m) (h : eop P X ρ o m = some (r, m')) :
    (m.next ≤ m'.next ∧ WF m') ∧ ∀ φ w ρ', MR φ m.get w → Bd φ m.next → (∀ x ∈ o.op.operands.toList, VR φ (ρ x) (ρ' x)) → LNR m m' r φ w ((execOp ρ' o).run P w) := by
  obtain ⟨dst, op, type, pos, after, guard⟩ := o
  have fin : ∀ {v : Value} {φ : Phi} {w : World} {s : Sem Value}, Good m m' v φ w (s.run P w) → Eff m m' v φ w ((do pure (Next.value (← s)) : Sem Next).run P w) := by
    rintro v φ w s ⟨v', w', φ', h1, h2⟩
    exact ⟨v', w', φ', .inl (by simp [h1]), h2⟩
  have finU : ∀ {φ : Phi} {w : World} {s : Sem Unit}, GoodU m m' φ w (s.run P w) → Eff m m' undef φ w ((do s; pure Next.skip : Sem Next).run P w) := by
    rintro φ w s ⟨w', φ', h1, h2, h3⟩
    exact ⟨undef, w', φ', .inr ⟨by simp [h1], rfl⟩, h2, VR.undef, h3⟩
  cases op <;> simp only [eop] at h <;> try (cases h; done)
  case store t a x =>
    split at h
    case h_2 => cases h
    rename_i b off sp i hb hi
    cases hq : Nat.beq (ρ x).cells.toList.length i.size with
    | false => simp only [hq, cond_false] at h; cases h
    | true =>
      simp only [hq, cond_true] at h
      have hlist : (lstoreL m b off sp (ρ x).cells.toList).map (fun m' => (LN.val undef, m')) = some (r, m') → (m.next ≤ m'.next ∧ WF m') ∧ ∀ φ w ρ', MR φ m.get w → Bd φ m.next → (∀ y ∈ ({ dst := dst, op := .store t a x, type := type, pos := pos, after := after, guard := guard } : Oper).op.operands.toList, VR φ (ρ y) (ρ' y)) → LNR m m' r φ w ((execOp ρ' { dst := dst, op := .store t a x, type := type, pos := pos, after := after, guard := guard }).run P w) := by
        intro h
        simp only [Option.map_eq_some_iff, Prod.mk.injEq] at h
        obtain ⟨m1, hst, rfl, rfl⟩ := h
        obtain ⟨⟨s1, s2⟩, s3⟩ := storeL_sim (P := P) hw hst
        refine ⟨⟨by omega, s2⟩, fun φ w ρ' hm hbd hρ => finU ?_⟩
        have ha := hρ a (by simp [Op.operands])
        have hx := hρ x (by simp [Op.operands])
        rw [hb] at ha
        obtain ⟨a', w', hq2, hrun, hsim, hmr⟩ := s3 φ w _ _ hm ha hx.cells
        refine ⟨w', φ, ?_, hsim, hmr, by rw [s1]; exact hbd⟩
        have hlen := hx.cells.length
        have hlen2 := Nat.eq_of_beq_eq_true hq
        have hne : ¬ ((ρ' x).cells.size ≠ i.size) := by
          simp at hlen hlen2; omega
        simp only [hq2, Instr.storeAt, Instr.sureAddr, Sem.run_bind, Sem.run_pure, Result.andThen_ok, storeVar, run_sizeOf' hi]
        rw [if_neg hne]
        simpa using hrun
      cases sp with
      | some mm => exact hlist h
      | none =>
      simp only at h
      split at h
      case h_2 => exact hlist h
      rename_i m1 hst
      simp only [Option.some.injEq, Prod.mk.injEq] at h
      obtain ⟨rfl, rfl⟩ := h
      obtain ⟨c0, s1, s2, s3, s4, s5, s6, s7⟩ := store_wf hw hst
      refine ⟨⟨by omega, s6⟩, fun φ w ρ' hm hbd hρ => finU ?_⟩
      have ha := hρ a (by simp [Op.operands])
      have hx := hρ x (by simp [Op.operands])
      rw [hb] at ha
      generalize hq2 : ρ' a = q at ha
      cases ha with
      | pdead _ _ _ a' hl =>
        cases hm.deadB s1 hl (fun _ _ _ h => by cases h)
      | ptr _ _ l hl =>
        obtain ⟨l', w', hl', hrun, hsim, hmr⟩ := store_sim (P := P) hw hst hm (by rw [hl]; simp) hx.cells
        rw [hl] at hl'; cases hl'
        refine ⟨w', φ, ?_, hsim, hmr, by rw [s7]; exact hbd⟩
        have hlen := hx.cells.length
        have hlen2 := Nat.eq_of_beq_eq_true hq
        have hne : ¬ ((ρ' x).cells.size ≠ i.size) := by
          simp at hlen hlen2; omega
        simp only [Instr.storeAt, Instr.sureAddr, Sem.run_bind, Sem.run_pure, Result.andThen_ok, storeVar, run_sizeOf' hi]
        rw [if_neg hne]
        simpa using hrun
  case mapUpdate t x k v =>
    simp only [Option.map_eq_some_iff, Prod.mk.injEq] at h
    obtain ⟨m1, hu, rfl, rfl⟩ := h
    obtain ⟨g1, g2⟩ := mapUpdate_sim hw hu
    exact ⟨g1, fun φ w ρ' hm hb hρ => finU (g2 φ w _ _ _ hm hb (hρ x (by simp [Op.operands])) (hρ k (by simp [Op.operands])) (hρ v (by simp [Op.operands])))⟩
  case insert t x k v =>
    simp only [Option.map_eq_some_iff, Prod.mk.injEq] at h
    obtain ⟨m1, hu, rfl, rfl⟩ := h
    obtain ⟨g1, g2⟩ := mapUpdate_sim hw hu
    exact ⟨g1, fun φ w ρ' hm hb hρ => finU (g2 φ w _ _ _ hm hb (hρ x (by simp [Op.operands])) (hρ k (by simp [Op.operands])) (hρ v (by simp [Op.operands])))⟩
  case convert src dst x =>
    simp only [Option.map_eq_some_iff, Prod.mk.injEq] at h
    obtain ⟨⟨v0, m0⟩, hu, hv0, rfl⟩ := h
    cases hv0
    obtain ⟨g1, g2⟩ := lmark_sim (P := P) hw hu
    exact ⟨g1, fun φ w ρ' hm hb hρ => fin (g2 φ w _ hm hb (hρ x (by simp [Op.operands])))⟩
  case call c =>
    obtain ⟨callee, args, argTypes⟩ := c
    obtain ⟨args⟩ := args
    obtain ⟨argTypes⟩ := argTypes
    cases callee with
    | value fo =>
      simp only at h
      split at h
      case h_2 => cases h
      rename_i g first captured hf
      obtain ⟨g1, g2⟩ := callF_sim hP hw h
      refine ⟨g1, fun φ w ρ' hm hb hρ => ?_⟩
      have hfo := hρ fo (by simp [Op.operands, Call.operands])
      rw [hf] at hfo
      generalize hq : ρ' fo = q at hfo
      cases hfo with
      | func _ _ _ ys vs h1 h2 =>
        have := g2 φ w (ys.toList ++ args.map ρ' ++ vs.toList) hm hb ((h1.append (VRL.map fun x hx => hρ x (by simp [Op.operands, Call.operands, hx]))).append h2)
        have he : (execOp ρ' { dst := dst, op := .call { callee := .value fo, args := ⟨args⟩, argTypes := ⟨argTypes⟩ }, type := type, pos := pos, after := after, guard := guard }).run P w =
            (callFunc g ⟨ys.toList ++ args.map ρ' ++ vs.toList⟩).run P w := by
          simp only [execOp, resolve, hq, Deferred.ofValue, Sem.run_bind, Sem.run_pure, Result.andThen_ok, invoke]
          congr 2
          apply Array.ext'
          simp
        rw [he]; exact this
    | invoke recv name =>
      simp only at h
      obtain ⟨g1, g2⟩ := invoke_sim hP hw h
      refine ⟨g1, fun φ w ρ' hm hb hρ => ?_⟩
      have := g2 φ w (ρ' recv) (args.map ρ') hm hb (hρ recv (by simp [Op.operands, Call.operands])) (VRL.map fun x hx => hρ x (by simp [Op.operands, Call.operands, hx]))
      have he : (execOp ρ' { dst := dst, op := .call { callee := .invoke recv name, args := ⟨args⟩, argTypes := ⟨argTypes⟩ }, type := type, pos := pos, after := after, guard := guard }).run P w =
          (callMethod (ρ' recv) name ⟨args.map ρ'⟩).run P w := by
        simp only [execOp, resolve, Sem.run_bind, Sem.run_pure, Result.andThen_ok, invoke]
        simp
        rw [List.take_of_length_le (by simp)]
      rw [he]; exact this
    | builtin bi =>
      cases bi <;> try (simp at h; done)
      case append =>
        simp only at h
        split at h
        case h_2 => cases h
        rename_i s x t u
        split at h
        · rename_i q hu
          have both : ∃ v, r = .val v ∧ (lappend P t (ρ s) (ρ x) m = some (v, m') ∨ lappendL P t (ρ s) (ρ x) m = some (v, m')) := by
            split at h
            · rename_i q' ha
              cases h
              exact ⟨_, rfl, .inl ha⟩
            · simp only [Option.map_eq_some_iff, Prod.mk.injEq] at h
              obtain ⟨⟨v, m1⟩, ha, rfl, rfl⟩ := h
              exact ⟨v, rfl, .inr ha⟩
          obtain ⟨v, rfl, ha⟩ := both
          obtain ⟨g1, g2⟩ := ha.elim (fun ha => append_sim (ty := type) hw ha hu (.inl ⟨q, rfl⟩)) (fun ha => appendL_sim (ty := type) hw ha hu (.inl ⟨q, rfl⟩))
          refine ⟨g1, fun φ w ρ' hm hb hρ => ?_⟩
          obtain ⟨v', w', φ', h1, h2⟩ := g2 φ w (ρ' s) (ρ' x) hm hb (hρ s (by simp [Op.operands, Call.operands])) (hρ x (by simp [Op.operands, Call.operands]))
          exact ⟨v', w', φ', .inl (by simp [execOp, resolve, invoke, builtin, h1]), h2⟩
        · rename_i hu
          have both : ∃ v, r = .val v ∧ (lappend P t (ρ s) (ρ x) m = some (v, m') ∨ lappendL P t (ρ s) (ρ x) m = some (v, m')) := by
            split at h
            · rename_i q' ha
              cases h
              exact ⟨_, rfl, .inl ha⟩
            · simp only [Option.map_eq_some_iff, Prod.mk.injEq] at h
              obtain ⟨⟨v, m1⟩, ha, rfl, rfl⟩ := h
              exact ⟨v, rfl, .inr ha⟩
          obtain ⟨v, rfl, ha⟩ := both
          obtain ⟨g1, g2⟩ := ha.elim (fun ha => append_sim (ty := type) hw ha hu (.inr rfl)) (fun ha => appendL_sim (ty := type) hw ha hu (.inr rfl))
          refine ⟨g1, fun φ w ρ' hm hb hρ => ?_⟩
          obtain ⟨v', w', φ', h1, h2⟩ := g2 φ w (ρ' s) (ρ' x) hm hb (hρ s (by simp [Op.operands, Call.operands])) (hρ x (by simp [Op.operands, Call.operands]))
          exact ⟨v', w', φ', .inl (by simp [execOp, resolve, invoke, builtin, h1]), h2⟩
        · cases h
      case clear =>
        simp only at h
        split at h
        case h_2 => cases h
        rename_i x t
        simp only [Option.map_eq_some_iff, Prod.mk.injEq] at h
        obtain ⟨m1, ha, rfl, rfl⟩ := h
        obtain ⟨g1, g2⟩ := clear_sim (ty := type) hw ha
        refine ⟨g1, fun φ w ρ' hm hb hρ => ?_⟩
        obtain ⟨v', w', φ', h1, h2⟩ := g2 φ w (ρ' x) hm hb (hρ x (by simp [Op.operands, Call.operands]))
        exact ⟨v', w', φ', .inl (by simp [execOp, resolve, invoke, builtin, h1]), h2⟩
      case delete =>
        simp only at h
        split at h
        case h_2 => cases h
        rename_i x k t u
        simp only [Option.map_eq_some_iff, Prod.mk.injEq] at h
        obtain ⟨m1, ha, rfl, rfl⟩ := h
        obtain ⟨g1, g2⟩ := delete_sim (u := u) (ty := type) hw ha
        refine ⟨g1, fun φ w ρ' hm hb hρ => ?_⟩
        obtain ⟨v', w', φ', h1, h2⟩ := g2 φ w (ρ' x) (ρ' k) hm hb (hρ x (by simp [Op.operands, Call.operands])) (hρ k (by simp [Op.operands, Call.operands]))
        exact ⟨v', w', φ', .inl (by simp [execOp, resolve, invoke, builtin, h1]), h2⟩
end
end Go.Eng
/- The engine's run of a region in the order of its text is one of the model's. -/
namespace Go.Eng
variable [SymV]
section
variable {P : Program}

/-- a frame that fits its trie -/
structure LFok (f : LF) : Prop where
  nt : f.nt ≤ 512

structure FR (φ : Phi) (f : LF) (a : Act) : Prop where
  size : a.tmps.size = f.nt
  ok : LFok f
  val : ∀ i, VR φ (f.get i) (a.tmps.getD i undef)


theorem LF.get_lt {f : LF} {i : Nat} (h : i < f.nt) : f.get i = (FT.get f.tr i).getD undef := by
  have _s := SymV.val
  obtain ⟨tr, nt⟩ := f
  show Bool.rec (motive := fun _ => Value) undef (Option.rec (motive := fun _ => Value) undef (fun v => v) (FT.get tr i)) (Nat.blt i nt) = (FT.get tr i).getD undef
  rw [blt_true h]
  cases FT.get tr i <;> rfl
theorem LF.get_ge {f : LF} {i : Nat} (h : f.nt ≤ i) : f.get i = undef := by
  have _s := SymV.val
  obtain ⟨tr, nt⟩ := f
  show Bool.rec (motive := fun _ => Value) undef (Option.rec (motive := fun _ => Value) undef (fun v => v) (FT.get tr i)) (Nat.blt i nt) = undef
  rw [blt_false h]

theorem LF.get_put {f f' : LF} {d : Nat} {v : Value} (hn : LFok f) (h : f.put (some d) v = some f') : f'.nt = f.nt ∧ LFok f' ∧ d < f.nt ∧ ∀ i, f'.get i = if i = d then v else f.get i := by
  have h : (bif Nat.blt d f.nt then some { f with tr := FT.set f.tr d v } else none) = some f' := by cases f; exact h
  cases hd : Nat.blt d f.nt with
  | false => simp [hd] at h
  | true =>
    simp only [hd, cond_true, Option.some.injEq] at h
    subst h
    have hd' := blt_lt hd
    have h256 := hn.nt
    refine ⟨rfl, ⟨hn.nt⟩, hd', fun i => ?_⟩
    by_cases hi : i < f.nt
    · rw [LF.get_lt (by exact hi), FT.get_set _ _ _ _ (by omega) (by omega)]
      by_cases he : i = d
      · subst he; simp
      · rw [if_neg he, if_neg (by omega), LF.get_lt hi]
    · rw [LF.get_ge (by show f.nt ≤ i; omega), if_neg (by omega), LF.get_ge (by omega)]

theorem LFok.put {f f' : LF} {d : Option Nat} {v : Value} (hn : LFok f) (h : f.put d v = some f') : LFok f' ∧ f'.nt = f.nt := by
  cases d with
  | none => simp [LF.put] at h; subst h; exact ⟨hn, rfl⟩
  | some d => obtain ⟨h1, h2, _⟩ := LF.get_put hn h; exact ⟨h2, h1⟩

theorem FR.put {φ : Phi} {f f' : LF} {a : Act} {dst : Option Nat} {v v' : Value} (h : FR φ f a) (hp : f.put dst v = some f') (hv : VR φ v v') : FR φ f' (a.put dst v') := by
  cases dst with
  | none => simp [LF.put] at hp; subst hp; exact h
  | some d =>
    obtain ⟨h1, h0, h2, h3⟩ := LF.get_put h.ok hp
    refine ⟨by simp [Act.put, h.size, h1], h0, fun i => ?_⟩
    rw [h3 i]
    by_cases he : i = d
    · subst he
      rw [if_pos rfl]
      have : (a.put (some i) v').tmps.getD i undef = v' := by
        simp [Act.put, h.size, h2]
      rw [this]; exact hv
    · rw [if_neg he]
      have : (a.put (some d) v').tmps.getD i undef = a.tmps.getD i undef := by
        simp [Act.put, Array.getElem?_setIfInBounds_ne (Ne.symm he)]
      rw [this]; exact h.val i

theorem FR.mono {φ φ' : Phi} {f : LF} {a : Act} (h : FR φ f a) (he : Ext φ φ') : FR φ' f a := by
  have _s := SymV.val
  have _s := SymV.val
  exact ⟨h.size, h.ok, fun i => (h.val i).mono he⟩

theorem FR.eval {φ : Phi} {f : LF} {a : Act} (h : FR φ f a) {x : Operand} (hx : okOperand x = true) : VR φ (f.lev x) (a.eval x) := by
  have _s := SymV.val
  cases x with
  | tmp i => exact h.val i
  | const v => exact VR.refl 7 v (Nat.eq_of_beq_eq_true hx)
  | global g => cases hx
  | func g => exact .func _ _ _ _ _ .nil .nil

theorem ops_ok {φ : Phi} {f : LF} {a : Act} (h : FR φ f a) {o : Oper} (ho : okOp o = true) : ∀ x ∈ o.op.operands.toList, VR φ (f.lev x) (a.eval x) :=
  fun x hx => h.eval (List.all_eq_true.1 ho x hx)

def CallPost (m m' : LMem) (v : Value) (φ : Phi) (w : World) (e : Ending) (w' : World) : Prop :=
  ∃ v' φ', e = .returned v' ∧ Sim m.next φ φ' w w' ∧ VR φ' v v' ∧ MR φ' m'.get w' ∧ Bd φ' m'.next

def CallSound (P : Program) (call : CallT) : Prop :=
  ∀ g args m v m', call g args m = some (v, m') → WF m → (m.next ≤ m'.next ∧ WF m') ∧
    ∀ φ w args', MR φ m.get w → Bd φ m.next → VRL φ args args' → Calls P g ⟨args'⟩ w (CallPost m m' v φ w)

/-- what an operation must give -/
def Gives (P : Program) (o : Oper) (m m' : LMem) (v : Value) (φ : Phi) (a : Act) (w : World) : Prop :=
  ∀ (K : Act → World → Prop) (Q : Exit → Act → World → Prop),
    (∀ φ' w' v', Sim m.next φ φ' w w' → VR φ' v v' → MR φ' m'.get w' → Bd φ' m'.next → K (a.put o.dst v') w') → o.wp P a w K Q

theorem gives_of_eff {o : Oper} {m m' : LMem} {v : Value} {φ : Phi} {a : Act} {w : World} (h : Eff m m' v φ w ((execOp a.eval o).run P w)) : Gives P o m m' v φ a w := by
  have _s := SymV.val
  intro K Q hK
  obtain ⟨v', w', φ', h1, h2, h3, h4, h5⟩ := h
  unfold Oper.wp
  rcases h1 with h1 | ⟨h1, rfl⟩
  · rw [h1]; exact hK φ' w' v' h2 h3 h4 h5
  · rw [h1]; exact hK φ' w' undef h2 h3 h4 h5

theorem doEff_sim {X : ExtT} {call : CallT} (hP : POK P X) (hc : CallSound P call) {f : LF} {o : Oper} {m m' : LMem} {v : Value} (hw : WF m) (h : doEff P X call f o m = some (v, m')) :
    (m.next ≤ m'.next ∧ WF m') ∧ ∀ φ w a, MR φ m.get w → Bd φ m.next → (∀ x ∈ o.op.operands.toList, VR φ (f.lev x) (a.eval x)) → Gives P o m m' v φ a w := by
  unfold doEff at h
  split at h
  · rename_i v0 m0 he
    simp only [Option.some.injEq, Prod.mk.injEq] at h
    obtain ⟨rfl, rfl⟩ := h
    obtain ⟨g1, g2⟩ := esim hP hw he
    exact ⟨g1, fun φ w a hm hb hρ => gives_of_eff (g2 φ w a.eval hm hb hρ)⟩
  · rename_i g args m0 he
    obtain ⟨g1, g2⟩ := esim hP hw he
    have hm0 : m0 = m ∨ True := .inr trivial
    obtain ⟨q1, q2⟩ := hc g args m0 v m' h g1.2
    refine ⟨⟨Nat.le_trans g1.1 q1.1, q1.2⟩, fun φ w a hm hb hρ K Q hK => ?_⟩
    obtain ⟨rfl, args', hr, hv⟩ := g2 φ w a.eval hm hb hρ
    unfold Oper.wp
    rw [hr]
    have := q2 φ w args'.toList hm hb hv
    refine Calls.mono this ?_
    rintro e w' ⟨v', φ', rfl, h1, h2, h3, h4⟩
    exact hK φ' w' v' h1 h2 h3 h4
  · cases h

theorem doAlc_sim {f : LF} {o : Oper} {m m' : LMem} {v : Value} (hw : WF m) (h : doAlc P f o m = some (v, m')) :
    (m.next ≤ m'.next ∧ WF m') ∧ ∀ φ w a, MR φ m.get w → Bd φ m.next → (∀ x ∈ o.op.operands.toList, VR φ (f.lev x) (a.eval x)) → Gives P o m m' v φ a w := by
  unfold doAlc at h
  split at h
  case h_2 => cases h
  rename_i v0 b ha
  simp only [Option.map_eq_some_iff, Prod.mk.injEq] at h
  obtain ⟨m1, hal, rfl, rfl⟩ := h
  obtain ⟨a1, a2, a3, a4⟩ := LMem.alloc_spec hw hal
  refine ⟨⟨by omega, a4⟩, fun φ w a hm hb hρ => gives_of_eff ?_⟩
  obtain ⟨v', obj, l, w0, g0, g1, g2, g3, g4⟩ := asim (P := P) (w := w) (hb.none (Nat.le_refl _)) hρ ha
  obtain ⟨e1, e2, e3, e4⟩ : w0.heap = w.heap ∧ w0.os = w.os ∧ w0.tape = w.tape ∧ w0.output = w.output := by rcases g0 with rfl | rfl <;> exact ⟨rfl, rfl, rfl, rfl⟩
  obtain ⟨q1, q2, q3, _, _⟩ := alloc_world (w0 := w0) hw hm hb hal e1 e2 e3 e4 g2 g4
  exact ⟨v', _, _, .inl g1, q1, g3, q2, q3⟩

theorem doOp_sim {X : ExtT} {call : CallT} (hP : POK P X) (hc : CallSound P call) {f : LF} {o : Oper} {m m' : LMem} {v : Value} (hw : WF m) (h : doOp P X call f o m = some (v, m')) :
    (m.next ≤ m'.next ∧ WF m') ∧ ∀ φ w a, MR φ m.get w → Bd φ m.next → (∀ x ∈ o.op.operands.toList, VR φ (f.lev x) (a.eval x)) → Gives P o m m' v φ a w := by
  unfold doOp at h
  cases he : isEff o.op with
  | true => simp only [he, cond_true] at h; exact doEff_sim hP hc hw h
  | false =>
    simp only [he, cond_false] at h
    cases hal : isAlcP P o.op with
    | true => simp only [hal, cond_true] at h; exact doAlc_sim hw h
    | false =>
      simp only [hal, cond_false, Option.map_eq_some_iff, Prod.mk.injEq] at h
      obtain ⟨v0, hq, rfl, rfl⟩ := h
      refine ⟨⟨Nat.le_refl _, hw⟩, fun φ w a hm hb hρ => gives_of_eff ?_⟩
      obtain ⟨v', g1, g2⟩ := qsim (P := P) hm.part hm.pin hρ hq
      exact ⟨v', w, φ, .inl g1, Sim.refl _ φ w, g2, hm, hb⟩

theorem wanted_sim {φ : Phi} {f : LF} {a : Act} {ops : Array Oper} {o : Oper} {wt : Bool} (hd : ∀ j w d, o.guard = some (j, w) → (ops[j]?).bind (·.dst) = some d → VR φ (f.get d) (a.tmps.getD d undef)) (hsz : a.tmps.size = f.nt)
    (h : lwanted ops.toList o f = some wt) : Region.wanted o (yielded ops a.tmps) = wt := by
  unfold Region.wanted
  unfold lwanted at h
  cases hg : o.guard with
  | none => rw [hg] at h; cases h; rfl
  | some p =>
    obtain ⟨j, want⟩ := p
    rw [hg] at h
    simp only at h ⊢
    have hj : ops.toList[j]? = ops[j]? := by simp
    rw [hj] at h
    unfold yielded
    cases ho : ops[j]? with
    | none => rw [ho] at h; cases h; simp
    | some oj =>
      rw [ho] at h
      simp only [Option.bind_some] at h ⊢
      cases hdst : oj.dst with
      | none => rw [hdst] at h; cases h; simp
      | some d =>
        rw [hdst] at h
        have hv := hd j want d hg (by simp [ho, hdst])
        simp only [Option.bind_some] at h ⊢
        by_cases hlt : d < a.tmps.size
        · have hget : a.tmps.getD d undef = a.tmps[d] := by simp [hlt]
          rw [hget] at hv
          rw [Array.getElem?_eq_getElem hlt]
          generalize a.tmps[d] = y at hv
          generalize f.get d = x at hv h
          cases hv with
          | sym k n m v he =>
            simp only [Option.map_eq_some_iff] at h
            obtain ⟨b, hb, rfl⟩ := h
            have := (tlk_spec SymV.ok hb).2
            rw [show den SymV.val (.complex k n m) = SymV.val n from rfl, ← he] at this
            subst this
            rfl
          | bool b => cases h; rfl
          | lsym => cases h
          | _ => cases h; rfl
        · have hle : a.tmps.size ≤ d := Nat.le_of_not_lt hlt
          rw [Array.getElem?_eq_none hle]
          rw [hsz] at hle
          simp only [LF.get_ge hle, undef, Option.some.injEq] at h
          subst h
          rfl

/-- the state behind a run, as the post must take it -/
def Ends (m m' : LMem) (f' : LF) (φ : Phi) (a : Act) (w : World) (Q : Act → World → Prop) : Prop :=
  ∀ φ' w' a', Sim m.next φ φ' w w' → FR φ' f' a' → MR φ' m'.get w' → Bd φ' m'.next → a'.defers = a.defers → Q a' w'

theorem put_defers (a : Act) (d : Option Nat) (v : Value) : (a.put d v).defers = a.defers := by
  have _s := SymV.val
  cases d <;> rfl

theorem seq_sim {X : ExtT} {call : CallT} (hP : POK P X) (hc : CallSound P call) (ops : Array Oper) {Q : Exit → Act → World → Prop} (hok : ops.toList.all okOp = true) :
    ∀ (r : List Oper) (k : Nat) (f f' : LF) (m m' : LMem), ops.toList.drop k = r → runSeq P X call ops.toList r f m = some (f', m') → WF m →
      (m.next ≤ m'.next ∧ WF m') ∧ ∀ φ w a, MR φ m.get w → Bd φ m.next → FR φ f a → Ends m m' f' φ a w (Q .normal) → wpOps P ops Q (List.range' k r.length) a w := by
  intro r
  induction r with
  | nil =>
    intro k f f' m m' _ h hw
    simp only [runSeq, Option.some.injEq, Prod.mk.injEq] at h
    obtain ⟨rfl, rfl⟩ := h
    exact ⟨⟨Nat.le_refl _, hw⟩, fun φ w a hm hb hf hE => hE φ w a (Sim.refl _ φ w) hf hm hb rfl⟩
  | cons o r ih =>
    intro k f f' m m' hdrop h hw
    have hk : ops[k]? = some o := by
      have : ops.toList[k]? = some o := by
        have := congrArg List.head? hdrop
        rw [List.head?_drop] at this
        simpa using this
      simpa using this
    have hdrop' : ops.toList.drop (k + 1) = r := by
      rw [← List.drop_drop] at *
      rw [hdrop]; rfl
    have hoko : okOp o = true := List.all_eq_true.1 hok o (List.mem_of_getElem? (l := ops.toList) (i := k) (by simpa using hk))
    unfold runSeq at h
    have hwant : ∀ b, lwanted ops.toList o f = some b → ∀ φ a, FR φ f a → Region.wanted o (yielded ops a.tmps) = b := fun b hb φ a hf => wanted_sim (fun j w d _ _ => hf.val d) hf.size hb
    cases hwt : lwanted ops.toList o f with
    | none => rw [hwt] at h; cases h
    | some wt =>
    cases wt with
    | true =>
      simp only [hwt, cond_true] at h
      split at h
      case h_2 => cases h
      rename_i v m1 hop
      split at h
      case h_2 => cases h
      rename_i f1 hput
      obtain ⟨g1, g2⟩ := doOp_sim hP hc hw hop
      obtain ⟨i1, i2⟩ := ih (k + 1) f1 f' m1 m' hdrop' h g1.2
      refine ⟨⟨Nat.le_trans g1.1 i1.1, i1.2⟩, fun φ w a hm hb hf hE => ?_⟩
      rw [List.length_cons, List.range'_succ]
      simp only [wpOps, hk, hwant _ hwt φ a hf, if_true]
      left
      refine g2 φ w a hm hb (ops_ok hf hoko) _ _ fun φ1 w1 v1 hs hv hm1 hb1 => ?_
      refine i2 φ1 w1 _ hm1 hb1 ((hf.mono hs.ext).put hput hv) fun φ2 w2 a2 hs2 hf2 hm2 hb2 hd2 => ?_
      exact hE φ2 w2 a2 (hs.trans g1.1 hs2) hf2 hm2 hb2 (by rw [hd2, put_defers])
    | false =>
      simp only [hwt, cond_false] at h
      split at h
      case h_2 => cases h
      rename_i f1 hput
      obtain ⟨i1, i2⟩ := ih (k + 1) f1 f' m m' hdrop' h hw
      refine ⟨i1, fun φ w a hm hb hf hE => ?_⟩
      rw [List.length_cons, List.range'_succ]
      simp only [wpOps, hk, hwant _ hwt φ a hf, Bool.false_eq_true, if_false]
      refine i2 φ w _ hm hb (hf.put hput VR.undef) fun φ2 w2 a2 hs2 hf2 hm2 hb2 hd2 => ?_
      exact hE φ2 w2 a2 hs2 hf2 hm2 hb2 (by rw [hd2, put_defers])
end
end Go.Eng
/- A region that draws its order: what its check says. -/
namespace Go.Eng
variable [SymV]

theorem tb_eq (m i : Nat) : tb m i = m.testBit i := by
  have _s := SymV.val
  rw [Nat.testBit_eq_decide_div_mod_eq]
  unfold tb
  cases h : Nat.beq (m / 2 ^ i % 2) 1 with
  | true => simp [Nat.eq_of_beq_eq_true h]
  | false =>
    have : ¬ m / 2 ^ i % 2 = 1 := fun h' => by rw [h'] at h; cases h
    simp [this]

theorem tb_lor (a b i : Nat) : tb (Nat.lor a b) i = (tb a i || tb b i) := by
  simp only [tb_eq]; exact Nat.testBit_or a b i
theorem tb_pow (a i : Nat) : tb (2 ^ a) i = decide (a = i) := by simp [tb_eq, Nat.testBit_two_pow]
theorem tb_zero (i : Nat) : tb 0 i = false := by simp [tb_eq]
theorem tb_land (a b i : Nat) : tb (Nat.land a b) i = (tb a i && tb b i) := by
  simp only [tb_eq]; exact Nat.testBit_and a b i

theorem maskOf_bits (acc : List Nat) : ∀ (es : List Edge) (s i : Nat), tb (maskOf acc es s) i = true → tb s i = true ∨ ∃ e ∈ es, bnd e = true ∧ (e.on = i ∨ tb (acc.getD e.on 0) i = true)
  | [], s, i, h => .inl h
  | e :: r, s, i, h => by
    rcases maskOf_bits acc r _ i h with h1 | ⟨e', he', h1⟩
    · cases hb : bnd e with
      | false => simp only [hb, cond_false] at h1; exact .inl h1
      | true =>
        simp only [hb, cond_true, tb_lor, tb_pow, Bool.or_eq_true, decide_eq_true_eq] at h1
        rcases h1 with h1 | h1 | h1
        · exact .inl h1
        · exact .inr ⟨e, by simp, hb, .inl h1⟩
        · exact .inr ⟨e, by simp, hb, .inr h1⟩
    · exact .inr ⟨e', by simp [he'], h1⟩

theorem maskOf_keeps (acc : List Nat) : ∀ (es : List Edge) (s i : Nat), tb s i = true → tb (maskOf acc es s) i = true
  | [], _, _, h => h
  | e :: r, s, i, h => by
    refine maskOf_keeps acc r _ i ?_
    cases bnd e
    · exact h
    · simp only [cond_true, tb_lor, h, Bool.true_or]

theorem maskOf_direct (acc : List Nat) : ∀ (es : List Edge) (s : Nat) (e : Edge), e ∈ es → bnd e = true → tb (maskOf acc es s) e.on = true
  | [], _, _, h, _ => by simp at h
  | x :: r, s, e, h, hb => by
    rcases List.mem_cons.1 h with rfl | h
    · refine maskOf_keeps acc r _ _ ?_
      simp only [hb, cond_true, tb_lor, tb_pow]; simp
    · exact maskOf_direct acc r _ e h hb

theorem masks_length : ∀ (L : List Oper) (acc : List Nat), (masks L acc).length = acc.length + L.length
  | [], acc => by have _s := SymV.val; simp [masks]
  | o :: r, acc => by simp [masks, masks_length r]; omega

theorem masks_prefix : ∀ (L : List Oper) (acc : List Nat), (masks L acc).take acc.length = acc
  | [], acc => by have _s := SymV.val; simp [masks]
  | o :: r, acc => by
    have := masks_prefix r (acc ++ [maskOf acc o.after.toList 0])
    unfold masks
    have h2 := congrArg (List.take acc.length) this
    rw [List.take_take] at h2
    simp at h2
    exact h2

theorem masks_get : ∀ (L : List Oper) (acc : List Nat) (j : Nat) (o : Oper), L[j]? = some o →
    (masks L acc).getD (acc.length + j) 0 = maskOf ((masks L acc).take (acc.length + j)) o.after.toList 0
  | [], _, _, _, h => by simp at h
  | o :: r, acc, 0, o', h => by
    simp at h; subst h
    have hp := masks_prefix r (acc ++ [maskOf acc o.after.toList 0])
    have hp2 := masks_prefix (o :: r) acc
    rw [Nat.add_zero, hp2]
    unfold masks
    have : (masks r (acc ++ [maskOf acc o.after.toList 0]))[acc.length]? = some (maskOf acc o.after.toList 0) := by
      have h3 : ((masks r (acc ++ [maskOf acc o.after.toList 0])).take (acc ++ [maskOf acc o.after.toList 0]).length)[acc.length]? = some (maskOf acc o.after.toList 0) := by
        rw [hp]; simp
      rw [List.getElem?_take_of_lt (by simp)] at h3
      exact h3
    simp [List.getD, this]
  | o :: r, acc, j + 1, o', h => by
    have := masks_get r (acc ++ [maskOf acc o.after.toList 0]) j o' (by simpa using h)
    unfold masks
    simpa [Nat.add_assoc, Nat.add_comm 1 j] using this

theorem mask_bits {L : List Oper} {j : Nat} {o : Oper} (h : L[j]? = some o) {i : Nat} (hb : tb ((masks L []).getD j 0) i = true) :
    ∃ e ∈ o.after.toList, bnd e = true ∧ (e.on = i ∨ (e.on < j ∧ tb ((masks L []).getD e.on 0) i = true)) := by
  have hg := masks_get L [] j o h
  simp only [List.length_nil, Nat.zero_add] at hg
  rw [hg] at hb
  rcases maskOf_bits _ _ _ _ hb with h1 | ⟨e, he, hbe, h1⟩
  · rw [tb_zero] at h1; cases h1
  · refine ⟨e, he, hbe, ?_⟩
    rcases h1 with h1 | h1
    · exact .inl h1
    · by_cases hlt : e.on < j
      · refine .inr ⟨hlt, ?_⟩
        simp only [List.getD] at h1 ⊢
        rw [List.getElem?_take_of_lt hlt] at h1
        exact h1
      · have hnone : ((masks L []).take j).getD e.on 0 = 0 := by
          simp only [List.getD]
          rw [List.getElem?_eq_none (by simp; omega)]; rfl
        rw [hnone, tb_zero] at h1; cases h1

theorem mask_direct {L : List Oper} {j : Nat} {o : Oper} (h : L[j]? = some o) {e : Edge} (he : e ∈ o.after.toList) (hb : bnd e = true) : tb ((masks L []).getD j 0) e.on = true := by
  have hg := masks_get L [] j o h
  simp only [List.length_nil, Nat.zero_add] at hg
  rw [hg]
  exact maskOf_direct _ _ _ e he hb

/-- what is listed holds all that is ahead of it -/
def Cl (L : List Oper) (listed : Nat → Prop) : Prop := ∀ j o, L[j]? = some o → listed j → ∀ e ∈ o.after.toList, bnd e = true → listed e.on

theorem mask_closed {L : List Oper} {listed : Nat → Prop} (hcl : Cl L listed) (hin : ∀ j, listed j → j < L.length) : ∀ (j : Nat) (o : Oper), L[j]? = some o → (∀ e ∈ o.after.toList, bnd e = true → listed e.on) →
    ∀ i, tb ((masks L []).getD j 0) i = true → listed i := by
  intro j
  induction j using Nat.strongRecOn with
  | _ j ih =>
    intro o ho hd i hi
    obtain ⟨e, he, hb, h1⟩ := mask_bits ho hi
    rcases h1 with rfl | ⟨hlt, h1⟩
    · exact hd e he hb
    · have hle := hd e he hb
      obtain ⟨o', ho'⟩ : ∃ o', L[e.on]? = some o' := ⟨_, List.getElem?_eq_getElem (hin _ hle)⟩
      exact ih e.on hlt o' ho' (hcl e.on o' ho' hle) i h1

/-- the check of an order, position by position -/
structure OrdOK (L : List Oper) (ms ord : List Nat) : Prop where
  lt : ∀ (q i : Nat), ord[q]? = some i → i < L.length
  inj : ∀ (q q' : Nat) (i : Nat), ord[q]? = some i → ord[q']? = some i → q = q'
  ahead : ∀ (q i j : Nat), ord[q]? = some i → tb (ms.getD i 0) j = true → ∃ q', q' < q ∧ ord[q']? = some j
  eff : ∀ (q i : Nat) (o : Oper), ord[q]? = some i → L[i]? = some o → isEff o.op = true → ∀ (q' j : Nat), q' < q → ord[q']? = some j → tb (ms.getD i 0) j = true

theorem land_sub {a b i : Nat} (h : Nat.beq (Nat.land a b) a = true) (hi : tb a i = true) : tb b i = true := by
  have := Nat.eq_of_beq_eq_true h
  rw [← this, tb_land, Bool.and_eq_true] at hi
  exact hi.2

theorem ordOK_spec (L : List Oper) (ms : List Nat) : ∀ (r pre : List Nat) (acc : Nat), (∀ j, tb acc j = true ↔ j ∈ pre) → ordOK L ms r acc = true → pre.Nodup → (∀ j ∈ pre, j < L.length) →
    (∀ (q i j : Nat), pre[q]? = some i → tb (ms.getD i 0) j = true → ∃ q', q' < q ∧ pre[q']? = some j) →
    (∀ (q i : Nat) (o : Oper), pre[q]? = some i → L[i]? = some o → isEff o.op = true → ∀ (q' j : Nat), q' < q → pre[q']? = some j → tb (ms.getD i 0) j = true) →
    OrdOK L ms (pre ++ r) := by
  intro r
  induction r with
  | nil =>
    intro pre acc hacc _ hnd hlt h1 h2
    rw [List.append_nil]
    exact ⟨fun q i h => hlt i (List.mem_of_getElem? h), fun q q' i h h' => by
      have e1 := (List.getElem?_eq_some_iff.1 h)
      have e2 := (List.getElem?_eq_some_iff.1 h')
      exact (List.getElem_inj (h₀ := e1.1) (h₁ := e2.1) hnd).1 (e1.2.trans e2.2.symm), h1, h2⟩
  | cons i r ih =>
    intro pre acc hacc hok hnd hlt h1 h2
    unfold ordOK at hok
    simp only [Bool.and_eq_true, Bool.or_eq_true, Bool.not_eq_true'] at hok
    obtain ⟨⟨⟨⟨k1, k2⟩, k3⟩, k4⟩, k5⟩ := hok
    have k1 := blt_lt k1
    have hni : i ∉ pre := fun h => by rw [(hacc i).2 h] at k2; cases k2
    have hpos : ∀ j, j ∈ pre → ∃ q', q' < pre.length ∧ pre[q']? = some j := fun j hj => by
      obtain ⟨q', hq', he⟩ := List.mem_iff_getElem.1 hj
      exact ⟨q', hq', by rw [List.getElem?_eq_getElem hq', he]⟩
    have := ih (pre ++ [i]) (Nat.lor acc (2 ^ i)) (fun j => by
      rw [tb_lor, tb_pow, Bool.or_eq_true, hacc j, List.mem_append, decide_eq_true_eq, List.mem_singleton, eq_comm]) k5 (by
        rw [List.nodup_append]
        exact ⟨hnd, by simp, fun a ha b hb => by simp at hb; subst hb; exact fun h => hni (h ▸ ha)⟩)
      (fun j hj => by
        rcases List.mem_append.1 hj with hj | hj
        · exact hlt j hj
        · simp at hj; subst hj; exact k1)
      (fun q x j hq hx => by
        by_cases hql : q < pre.length
        · rw [List.getElem?_append_left hql] at hq
          obtain ⟨q', hq', he⟩ := h1 q x j hq hx
          exact ⟨q', hq', by rw [List.getElem?_append_left (by omega)]; exact he⟩
        · rw [List.getElem?_append_right (by omega)] at hq
          have hq0 : q = pre.length := by
            have := (List.getElem?_eq_some_iff.1 hq).1
            simp at this; omega
          subst hq0
          simp at hq; subst hq
          have hj : j ∈ pre := (hacc j).1 (land_sub k3 hx)
          obtain ⟨q', hq', he⟩ := hpos j hj
          exact ⟨q', hq', by rw [List.getElem?_append_left hq']; exact he⟩)
      (fun q x o hq ho he q' j hq' hj => by
        by_cases hql : q < pre.length
        · rw [List.getElem?_append_left hql] at hq
          rw [List.getElem?_append_left (by omega)] at hj
          exact h2 q x o hq ho he q' j hq' hj
        · rw [List.getElem?_append_right (by omega)] at hq
          have hq0 : q = pre.length := by
            have := (List.getElem?_eq_some_iff.1 hq).1
            simp at this; omega
          subst hq0
          simp at hq; subst hq
          rw [List.getElem?_append_left hq'] at hj
          rcases k4 with k4 | k4
          · simp [ho, he] at k4
          · exact land_sub k4 ((hacc j).2 (List.mem_of_getElem? hj)))
    simpa using this

structure RegOK (L : List Oper) (ms ord : List Nat) : Prop extends OrdOK L ms ord where
  ok : L.all okOp = true
  len : ord.length = L.length
  all : ∀ i, i < L.length → ∃ q : Nat, ord[q]? = some i
  tmps : ∀ (i j : Nat) (oi oj : Oper) (d : Nat), L[i]? = some oi → L[j]? = some oj → i ≠ j → oi.dst = some d → d ∈ namesOf L oj → tb (ms.getD j 0) i = true ∨ tb (ms.getD i 0) j = true

theorem regOK_spec {L : List Oper} (h : regOK L = true) : RegOK L (masks L []) (regOrd L (masks L [])) := by
  unfold regOK at h
  simp only [Bool.and_eq_true] at h
  obtain ⟨⟨⟨⟨k1, k2⟩, k3⟩, k4⟩, k5⟩ := h
  have hord := ordOK_spec L (masks L []) (regOrd L (masks L [])) [] 0 (fun j => by rw [tb_zero]; simp) k3 (by simp) (by simp) (fun q i j h => by simp at h) (fun q i o h => by simp at h)
  rw [List.nil_append] at hord
  refine ⟨hord, k1, Nat.eq_of_beq_eq_true k2, fun i hi => ?_, fun i j oi oj d hi hj hne hd hn => ?_⟩
  · have := List.all_eq_true.1 k4 i (List.mem_range.2 hi)
    obtain ⟨q, hq, he⟩ := List.mem_iff_getElem.1 (List.contains_iff_mem.1 this)
    exact ⟨q, by rw [List.getElem?_eq_getElem hq, he]⟩
  · unfold tmpsOK at k5
    have h1 := List.all_eq_true.1 k5 j (List.mem_range.2 (List.getElem?_eq_some_iff.1 hj).1)
    simp only [hj] at h1
    have h2 := List.all_eq_true.1 h1 i (List.mem_range.2 (List.getElem?_eq_some_iff.1 hi).1)
    simp only [hi, hd, Bool.or_eq_true, Bool.not_eq_true'] at h2
    rcases h2 with h2 | (h2 | h2) | h2
    · exact absurd (Nat.eq_of_beq_eq_true h2) hne
    · have := List.contains_iff_mem.2 hn
      rw [this] at h2; cases h2
    · exact .inl h2
    · exact .inr h2
end Go.Eng
/- A region that draws its order: the logical run as a trace. -/
namespace Go.Eng
variable [SymV]
section
variable {P : Program} {X : ExtT} {call : CallT}

/-- one step of the logical run -/
inductive DStep (P : Program) (X : ExtT) (call : CallT) (L : List Oper) (ms : List Nat) (i : Nat) (o : Oper) (f : LF) (m m' c c' : LMem) (v : Value) (h h' : List (Nat × (Nat → Option LB))) : Prop where
  | skip : lwanted L o f = some false → v = undef → m' = m → c' = c → h' = h → DStep P X call L ms i o f m m' c c' v h h'
  | eff : lwanted L o f = some true → isEff o.op = true → (∀ t ∈ tmpsOf L o, ub (f.get t) ≤ m.next) → doEff P X call f o m = some (v, m') → c' = m' → h' = (i, m.get) :: h → DStep P X call L ms i o f m m' c c' v h h'
  | alc : lwanted L o f = some true → isEff o.op = false → isAlcP P o.op = true → doAlc P f o m = some (v, m') → c' = c → h' = ovl m.next m' h → DStep P X call L ms i o f m m' c c' v h h'
  | quiet : lwanted L o f = some true → isEff o.op = false → isAlcP P o.op = false → qop P m.get f.lev o = some v → ((looks o.op || looksR f.lev o.op) = false ∨ stable P f o v (ms.getD i 0) h = true) → m' = m → c' = c → h' = h →
      DStep P X call L ms i o f m m' c c' v h h'

structure DRun (P : Program) (X : ExtT) (call : CallT) (L : List Oper) (ms ord : List Nat) (O : Nat → Oper) (F : Nat → LF) (M C : Nat → LMem) (V : Nat → Value) (H : Nat → List (Nat × (Nat → Option LB))) : Prop where
  op : ∀ (q i : Nat), ord[q]? = some i → L[i]? = some (O q)
  put : ∀ (q i : Nat), ord[q]? = some i → (F q).put (O q).dst (V q) = some (F (q + 1))
  step : ∀ (q i : Nat), ord[q]? = some i → DStep P X call L ms i (O q) (F q) (M q) (M (q + 1)) (C q) (C (q + 1)) (V q) (H q) (H (q + 1))

def cons {α : Type} (a : α) (f : Nat → α) : Nat → α
  | 0 => a
  | n + 1 => f n

theorem trace (L : List Oper) (ms : List Nat) : ∀ (ord : List Nat) (f : LF) (m cur : LMem) (hist : List (Nat × (Nat → Option LB))) (ff : LF) (mm : LMem), runDraw P X call L ms ord f m cur hist = some (ff, mm) →
    ∃ O F M C V H, F 0 = f ∧ M 0 = m ∧ C 0 = cur ∧ H 0 = hist ∧ F ord.length = ff ∧ M ord.length = mm ∧ DRun P X call L ms ord O F M C V H := by
  intro ord
  induction ord with
  | nil =>
    intro f m cur hist ff mm h
    simp only [runDraw, Option.some.injEq, Prod.mk.injEq] at h
    obtain ⟨rfl, rfl⟩ := h
    exact ⟨fun _ => default, fun _ => f, fun _ => m, fun _ => cur, fun _ => undef, fun _ => hist, rfl, rfl, rfl, rfl, rfl, rfl, ⟨fun q i h => by simp at h, fun q i h => by simp at h, fun q i h => by simp at h⟩⟩
  | cons i r ih =>
    intro f m cur hist ff mm h
    unfold runDraw at h
    split at h
    case h_1 => cases h
    rename_i o ho
    have key : ∀ (v : Value) (f1 : LF) (m1 cur1 : LMem) (hist1 : List (Nat × (Nat → Option LB))), f.put o.dst v = some f1 → DStep P X call L ms i o f m m1 cur cur1 v hist hist1 →
        runDraw P X call L ms r f1 m1 cur1 hist1 = some (ff, mm) →
        ∃ O F M C V H, F 0 = f ∧ M 0 = m ∧ C 0 = cur ∧ H 0 = hist ∧ F (i :: r).length = ff ∧ M (i :: r).length = mm ∧ DRun P X call L ms (i :: r) O F M C V H := by
      intro v f1 m1 cur1 hist1 hput hstep hrun
      obtain ⟨O, F, M, C, V, H, h1, h2, h3, h4, h5, h6, h7⟩ := ih f1 m1 cur1 hist1 ff mm hrun
      refine ⟨cons o O, cons f F, cons m M, cons cur C, cons v V, cons hist H, rfl, rfl, rfl, rfl, h5, h6, ⟨fun q j hq => ?_, fun q j hq => ?_, fun q j hq => ?_⟩⟩
      · cases q with
        | zero => simp at hq; subst hq; exact ho
        | succ q => exact h7.op q j (by simpa using hq)
      · cases q with
        | zero => simp only [cons]; rw [h1]; exact hput
        | succ q => exact h7.put q j (by simpa using hq)
      · cases q with
        | zero => simp at hq; subst hq; simp only [cons]; rw [h2, h3, h4]; exact hstep
        | succ q => exact h7.step q j (by simpa using hq)
    cases hw : lwanted L o f with
    | none => rw [hw] at h; cases h
    | some wt =>
    cases wt with
    | false =>
      simp only [hw, cond_false] at h
      split at h
      case h_2 => cases h
      rename_i f1 hput
      exact key undef f1 m cur hist hput (.skip hw rfl rfl rfl rfl) h
    | true =>
      simp only [hw, cond_true] at h
      cases he : isEff o.op with
      | true =>
        simp only [he, cond_true] at h
        cases hub : (tmpsOf L o).all fun t => Nat.ble (ub (f.get t)) m.next with
        | false => simp only [hub, cond_false] at h; cases h
        | true =>
          simp only [hub, cond_true] at h
          split at h
          case h_2 => cases h
          rename_i v m1 hd
          split at h
          case h_2 => cases h
          rename_i f1 hput
          exact key v f1 m1 m1 _ hput (.eff hw he (fun t ht => Nat.le_of_ble_eq_true (List.all_eq_true.1 hub t ht)) hd rfl rfl) h
      | false =>
        simp only [he, cond_false] at h
        cases ha : isAlcP P o.op with
        | true =>
          simp only [ha, cond_true] at h
          split at h
          case h_2 => cases h
          rename_i v m1 hd
          split at h
          case h_2 => cases h
          rename_i f1 hput
          exact key v f1 m1 cur (ovl m.next m1 hist) hput (.alc hw he ha hd rfl rfl) h
        | false =>
          simp only [ha, cond_false] at h
          split at h
          case h_2 => cases h
          rename_i v hq
          cases hs : (!(looks o.op || looksR f.lev o.op) || stable P f o v (ms.getD i 0) hist) with
          | false => simp only [hs, cond_false] at h; cases h
          | true =>
            simp only [hs, cond_true] at h
            split at h
            case h_2 => cases h
            rename_i f1 hput
            rw [Bool.or_eq_true, Bool.not_eq_true'] at hs
            exact key v f1 m cur hist hput (.quiet hw he ha hq hs rfl rfl rfl) h

/-- an effect was carried out at a position -/
def isE (L : List Oper) (O : Nat → Oper) (F : Nat → LF) (q : Nat) : Prop := lwanted L (O q) (F q) = some true ∧ isEff (O q).op = true
def isA (P : Program) (L : List Oper) (O : Nat → Oper) (F : Nat → LF) (q : Nat) : Prop := lwanted L (O q) (F q) = some true ∧ isEff (O q).op = false ∧ isAlcP P (O q).op = true

variable {L : List Oper} {ms ord : List Nat} {O : Nat → Oper} {F : Nat → LF} {M C : Nat → LMem} {V : Nat → Value} {H : Nat → List (Nat × (Nat → Option LB))}

theorem ord_at {q : Nat} (h : q < ord.length) : ∃ i, ord[q]? = some i := by
  have _s := SymV.val
  exact ⟨_, List.getElem?_eq_getElem h⟩

theorem run_wf (hP : POK P X) (hc : CallSound P call) (hR : DRun P X call L ms ord O F M C V H) (hw : WF (M 0)) : ∀ q, q ≤ ord.length → WF (M q) ∧ ∀ q', q' ≤ q → (M q').next ≤ (M q).next := by
  intro q
  induction q with
  | zero =>
    intro _
    refine ⟨hw, fun q' h => ?_⟩
    have : q' = 0 := by omega
    subst this
    exact Nat.le_refl _
  | succ q ih =>
    intro hq
    obtain ⟨h1, h2⟩ := ih (by omega)
    obtain ⟨i, hi⟩ := ord_at (ord := ord) (q := q) (by omega)
    have : WF (M (q + 1)) ∧ (M q).next ≤ (M (q + 1)).next := by
      cases hR.step q i hi with
      | skip _ _ hm => rw [hm]; exact ⟨h1, Nat.le_refl _⟩
      | eff _ _ _ hd => obtain ⟨g, _⟩ := doEff_sim hP hc h1 hd; exact ⟨g.2, g.1⟩
      | alc _ _ _ hd => obtain ⟨g, _⟩ := doAlc_sim h1 hd; exact ⟨g.2, g.1⟩
      | quiet _ _ _ _ _ hm => rw [hm]; exact ⟨h1, Nat.le_refl _⟩
    refine ⟨this.1, fun q' hq' => ?_⟩
    by_cases he : q' = q + 1
    · rw [he]; exact Nat.le_refl _
    · exact Nat.le_trans (h2 q' (by omega)) this.2

/-- where an allocation lies -/
theorem alc_at (hR : DRun P X call L ms ord O F M C V H) {q i : Nat} (hi : ord[q]? = some i) (hw : WF (M q)) (ha : isA P L O F q) :
    ∃ b, aop P (F q).lev (O q) (M q).next = some (V q, b) ∧ (M q).alloc b = some (M (q + 1)) ∧ (M (q + 1)).next = (M q).next + 1 ∧ (M (q + 1)).get (M q).next = some b := by
  cases hR.step q i hi with
  | skip h => rw [ha.1] at h; cases h
  | eff _ h => rw [ha.2.1] at h; cases h
  | quiet _ _ h => rw [ha.2.2] at h; cases h
  | alc _ _ _ hd =>
    unfold doAlc at hd
    split at hd
    case h_2 => cases hd
    rename_i v b hb
    simp only [Option.map_eq_some_iff, Prod.mk.injEq] at hd
    obtain ⟨m1, hal, rfl, rfl⟩ := hd
    obtain ⟨a1, a2, _, _⟩ := LMem.alloc_spec hw hal
    exact ⟨b, hb, hal, a1, a2⟩

/-- without an effect between, blocks stay -/
theorem mem_between (hP : POK P X) (hc : CallSound P call) (hR : DRun P X call L ms ord O F M C V H) (hw : WF (M 0)) {p : Nat} : ∀ q, p ≤ q → q ≤ ord.length → (∀ q', p ≤ q' → q' < q → ¬ isE L O F q') →
    ∀ id, id < (M p).next → (M q).get id = (M p).get id := by
  intro q
  induction q with
  | zero => intro h _ _ id _; have : p = 0 := by omega
            subst this; rfl
  | succ q ih =>
    intro hpq hq hne id hid
    by_cases he : p = q + 1
    · rw [he]
    · have h1 := ih (by omega) (by omega) (fun q' a b => hne q' a (by omega)) id hid
      obtain ⟨hwq, hmono⟩ := run_wf hP hc hR hw q (by omega)
      obtain ⟨i, hi⟩ := ord_at (ord := ord) (q := q) (by omega)
      rw [← h1]
      cases hR.step q i hi with
      | skip _ _ hm => rw [hm]
      | eff a b => exact absurd ⟨a, b⟩ (hne q (by omega) (by omega))
      | alc a b c hd =>
        obtain ⟨b', _, hal, _, _⟩ := alc_at hR hi hwq ⟨a, b, c⟩
        obtain ⟨_, _, a3, _⟩ := LMem.alloc_spec hwq hal
        exact a3 id (by have := hmono p (by omega); omega)
      | quiet _ _ _ _ _ hm => rw [hm]

/-- a snapshot is the memory behind the last effect -/
theorem cur_at (hR : DRun P X call L ms ord O F M C V H) (h0 : C 0 = M 0) {p : Nat} (hp : p = 0 ∨ isE L O F (p - 1)) : ∀ q, p ≤ q → q ≤ ord.length → (∀ q', p ≤ q' → q' < q → ¬ isE L O F q') → C q = M p := by
  intro q
  induction q with
  | zero => intro h _ _; have : p = 0 := by omega
            subst this; exact h0
  | succ q ih =>
    intro hpq hq hne
    obtain ⟨i, hi⟩ := ord_at (ord := ord) (q := q) (by omega)
    by_cases he : p = q + 1
    · subst he
      rcases hp with hp | hp
      · omega
      · simp only [Nat.add_sub_cancel] at hp
        cases hR.step q i hi with
        | skip h => rw [hp.1] at h; cases h
        | eff _ _ _ _ hc => exact hc
        | alc _ h => rw [hp.2] at h; cases h
        | quiet _ h => rw [hp.2] at h; cases h
    · have h1 := ih (by omega) (by omega) (fun q' a b => hne q' a (by omega))
      cases hR.step q i hi with
      | skip _ _ _ hc => rw [hc]; exact h1
      | eff a b => exact absurd ⟨a, b⟩ (hne q (by omega) (by omega))
      | alc _ _ _ _ hc => rw [hc]; exact h1
      | quiet _ _ _ _ _ _ hc => rw [hc]; exact h1

theorem ovl_mem {n : Nat} {m' : LMem} : ∀ {l : List (Nat × (Nat → Option LB))} {x : Nat × (Nat → Option LB)}, x ∈ ovl n m' l → ∃ y ∈ l, y.1 = x.1
  | [], x, h => by have _s := SymV.val; cases h
  | (e, g) :: r, x, h => by
    rcases List.mem_cons.1 h with rfl | h
    · exact ⟨_, List.mem_cons_self .., rfl⟩
    · obtain ⟨y, h1, h2⟩ := ovl_mem h
      exact ⟨y, List.mem_cons_of_mem _ h1, h2⟩
theorem ovl_app {n : Nat} {m' : LMem} : ∀ {l1 l2 : List (Nat × (Nat → Option LB))}, ovl n m' (l1 ++ l2) = ovl n m' l1 ++ ovl n m' l2
  | [], l2 => by have _s := SymV.val; rfl
  | (e, g) :: r, l2 => by
    simp only [List.cons_append, ovl]
    rw [ovl_app]

/-- an effect's snapshot, with the blocks made since, stands in the history, behind later effects alone -/
theorem hist_at (hP : POK P X) (hc : CallSound P call) (hR : DRun P X call L ms ord O F M C V H) (hw : WF (M 0)) {e : Nat} (he : isE L O F e) : ∀ q, e < q → q ≤ ord.length →
    ∃ i l1 l2 G, ord[e]? = some i ∧ H q = l1 ++ (i, G) :: l2 ∧ (∀ x ∈ l1, ∃ e', e < e' ∧ e' < q ∧ isE L O F e' ∧ ord[e']? = some x.1) ∧ (∀ id, id < (M e).next → G id = (M e).get id) ∧
      (∀ q', e < q' → q' < q → isA P L O F q' → G (M q').next = (M (q' + 1)).get (M q').next) ∧ ∀ id, (M q).next ≤ id → ∀ b, G id ≠ some b := by
  intro q
  induction q with
  | zero => intro h _; omega
  | succ q ih =>
    intro heq hq
    obtain ⟨i, hi⟩ := ord_at (ord := ord) (q := q) (by omega)
    obtain ⟨hwq, hmono⟩ := run_wf hP hc hR hw q (by omega)
    by_cases hqe : e = q
    · subst hqe
      cases hR.step e i hi with
      | skip h => rw [he.1] at h; cases h
      | eff _ _ _ _ _ hh => exact ⟨i, [], H e, (M e).get, hi, by rw [hh]; rfl, fun x hx => by simp at hx, fun _ _ => rfl, (fun q' h1 h2 => by omega), fun id hid b => by have := (run_wf hP hc hR hw (e + 1) (by omega)).2 e (by omega); rw [LMem.get_none (by omega)]; simp⟩
      | alc _ h => rw [he.2] at h; cases h
      | quiet _ h => rw [he.2] at h; cases h
    · obtain ⟨j, l1, l2, G, h1, h2, h3, h4, h5, h6⟩ := ih (by omega) (by omega)
      have keep : ¬ isA P L O F q → H (q + 1) = H q → ∃ i l1 l2 G, ord[e]? = some i ∧ H (q + 1) = l1 ++ (i, G) :: l2 ∧ (∀ x ∈ l1, ∃ e', e < e' ∧ e' < q + 1 ∧ isE L O F e' ∧ ord[e']? = some x.1) ∧ (∀ id, id < (M e).next → G id = (M e).get id) ∧
          (∀ q', e < q' → q' < q + 1 → isA P L O F q' → G (M q').next = (M (q' + 1)).get (M q').next) ∧ ∀ id, (M (q + 1)).next ≤ id → ∀ b, G id ≠ some b := by
        intro hna hh
        refine ⟨j, l1, l2, G, h1, by rw [hh]; exact h2, fun x hx => ?_, h4, fun q' a b hA => ?_, fun id hid b => h6 id (by have := (run_wf hP hc hR hw (q + 1) (by omega)).2 q (by omega); omega) b⟩
        · obtain ⟨e', a, b, c⟩ := h3 x hx
          exact ⟨e', a, by omega, c⟩
        · by_cases hqq : q' = q
          · rw [hqq] at hA; exact absurd hA hna
          · exact h5 q' a (by omega) hA
      cases hR.step q i hi with
      | skip a _ _ _ hh => exact keep (fun hA => by rw [hA.1] at a; cases a) hh
      | quiet _ _ b _ _ _ _ hh => exact keep (fun hA => by rw [hA.2.2] at b; cases b) hh
      | alc a b c hd _ hh =>
        have hA : isA P L O F q := ⟨a, b, c⟩
        obtain ⟨_, _, _, k3, _⟩ := alc_at hR hi hwq hA
        refine ⟨j, ovl (M q).next (M (q + 1)) l1, ovl (M q).next (M (q + 1)) l2, fun id => bif Nat.beq id (M q).next then (M (q + 1)).get (M q).next else G id, h1, by rw [hh, h2, ovl_app]; rfl, fun x hx => ?_, fun id hid => ?_, fun q' ha hb hA' => ?_, fun id hid b => ?_⟩
        · obtain ⟨y, hy1, hy2⟩ := ovl_mem hx
          obtain ⟨e', a, b, c, d⟩ := h3 y hy1
          exact ⟨e', a, by omega, c, by rw [← hy2]; exact d⟩
        · have := hmono e (by omega)
          have hb : Nat.beq id (M q).next = false := by
            cases hb : Nat.beq id (M q).next with
            | false => rfl
            | true => have := Nat.eq_of_beq_eq_true hb; omega
          show (bif Nat.beq id (M q).next then _ else G id) = _
          rw [hb]
          exact h4 id hid
        · by_cases hqq : q' = q
          · subst hqq
            show (bif Nat.beq (M q').next (M q').next then _ else _) = _
            rw [Nat.beq_refl]
            rfl
          · obtain ⟨i', hi'⟩ := ord_at (ord := ord) (q := q') (by omega)
            obtain ⟨hwq', _⟩ := run_wf hP hc hR hw q' (by omega)
            obtain ⟨_, _, _, k3', _⟩ := alc_at hR hi' hwq' hA'
            have := hmono (q' + 1) (by omega)
            have hb : Nat.beq (M q').next (M q).next = false := by
              cases hb : Nat.beq (M q').next (M q).next with
              | false => rfl
              | true => have := Nat.eq_of_beq_eq_true hb; omega
            show (bif Nat.beq (M q').next (M q).next then _ else G (M q').next) = _
            rw [hb]
            exact h5 q' ha (by omega) hA'
        · have hb : Nat.beq id (M q).next = false := by
            cases hb : Nat.beq id (M q).next with
            | false => rfl
            | true => have := Nat.eq_of_beq_eq_true hb; omega
          show (bif Nat.beq id (M q).next then _ else G id) ≠ _
          rw [hb]
          exact h6 id (by omega) b
      | eff a b _ _ _ hh =>
        refine ⟨j, (i, (M q).get) :: l1, l2, G, h1, by rw [hh, h2]; rfl, fun x hx => ?_, h4, fun q' ha hb hA' => ?_, fun id hid b => h6 id (by have := (run_wf hP hc hR hw (q + 1) (by omega)).2 q (by omega); omega) b⟩
        · rcases List.mem_cons.1 hx with rfl | hx
          · exact ⟨q, by omega, by omega, ⟨a, b⟩, hi⟩
          · obtain ⟨e', a', b', c'⟩ := h3 x hx
            exact ⟨e', a', by omega, c'⟩
        · by_cases hqq : q' = q
          · rw [hqq] at hA'; have := hA'.2.1; rw [b] at this; cases this
          · exact h5 q' ha (by omega) hA'

theorem veqL_eq {eq : Value → Value → Bool} (he : ∀ x y, eq x y = true → x = y) : ∀ {xs ys : List Value}, veqL eq xs ys = true → xs = ys
  | [], [], _ => by have _s := SymV.val; exact rfl
  | [], _ :: _, h => by simp [veqL] at h
  | _ :: _, [], h => by simp [veqL] at h
  | x :: xs, y :: ys, h => by
    simp only [veqL, Bool.and_eq_true] at h
    rw [he x y h.1, veqL_eq he h.2]

theorem aeq_eq {a b : Addr} (h : aeq a b = true) : a = b := by
  have _s := SymV.val
  obtain ⟨b1, o1, s1⟩ := a
  obtain ⟨b2, o2, s2⟩ := b
  simp only [aeq, Bool.and_eq_true] at h
  obtain ⟨⟨h1, h2⟩, h3⟩ := h
  have h1 := Nat.eq_of_beq_eq_true h1
  have h2 := Nat.eq_of_beq_eq_true h2
  subst h1 h2
  cases s1 <;> cases s2 <;> simp at h3
  · rfl
  · subst h3; rfl

theorem veq_eq : ∀ (n : Nat) (x y : Value), veq n x y = true → x = y := by
  intro n
  induction n with
  | zero => intro x y h; simp [veq] at h
  | succ n ih =>
    intro x y h
    unfold veq at h
    split at h <;> try (cases h; done)
    · simp at h; subst h; rfl
    · simp at h; obtain ⟨rfl, rfl⟩ := h; rfl
    · simp at h; congr 1; exact ByteArray.ext h
    · rfl
    · rw [aeq_eq h]
    · simp only [Bool.and_eq_true] at h; rw [Nat.eq_of_beq_eq_true h.1, Nat.eq_of_beq_eq_true h.2]
    · simp only [Bool.and_eq_true] at h; rw [aeq_eq h.1.1, Nat.eq_of_beq_eq_true h.1.2, Nat.eq_of_beq_eq_true h.2]
    · rfl
    · rw [Nat.eq_of_beq_eq_true h]
    · rfl
    · rw [Nat.eq_of_beq_eq_true h]
    · simp only [Bool.and_eq_true, decide_eq_true_eq] at h; rw [h.1, Nat.eq_of_beq_eq_true h.2]
    · simp only [Bool.and_eq_true, decide_eq_true_eq] at h; rw [h.1.1, Nat.eq_of_beq_eq_true h.1.2, Nat.eq_of_beq_eq_true h.2]
    · rfl
    · rfl
    · simp only [Bool.and_eq_true] at h; rw [Nat.eq_of_beq_eq_true h.1, ih _ _ h.2]
    · congr 1; exact Array.ext' (veqL_eq ih h)
    · congr 1; exact Array.ext' (veqL_eq ih h)
    · simp only [Bool.and_eq_true] at h
      rw [Nat.eq_of_beq_eq_true h.1.1, Array.ext' (veqL_eq ih h.1.2), Array.ext' (veqL_eq ih h.2)]

theorem stable_at {f : LF} {o : Oper} {v : Value} {mj e : Nat} {mem : Nat → Option LB} : ∀ {l1 l2 : List (Nat × (Nat → Option LB))}, stable P f o v mj (l1 ++ (e, mem) :: l2) = true → (∀ x ∈ l1, tb mj x.1 = false) → tb mj e = false →
    qop P mem f.lev o = some v
  | [], l2, h, _, he => by
    simp only [List.nil_append, stable, he, Bool.false_or, Bool.and_eq_true] at h
    obtain ⟨h1, _⟩ := h
    split at h1
    · rename_i u hu; rw [hu, veq_eq 7 u v h1]
    · cases h1
  | (x, mx) :: l1, l2, h, hall, he => by
    simp only [List.cons_append, stable, hall (x, mx) (by simp), Bool.false_or, Bool.and_eq_true] at h
    exact stable_at h.2 (fun y hy => hall y (by simp [hy])) he
end
end Go.Eng
/- A region that draws its order: whatever order comes up, the state is the logical one. -/
namespace Go.Eng
variable [SymV]
section
variable {P : Program} {X : ExtT} {call : CallT}

/-- a temporary behind the positions of S below k -/
noncomputable def TV (O : Nat → Oper) (V : Nat → Value) (f0 : LF) (S : Nat → Bool) : Nat → Nat → Value
  | 0, t => f0.get t
  | k + 1, t => if S k = true ∧ (O k).dst = some t then V k else TV O V f0 S k t

variable {L : List Oper} {ms ord : List Nat} {O : Nat → Oper} {F : Nat → LF} {M C : Nat → LMem} {V : Nat → Value} {H : Nat → List (Nat × (Nat → Option LB))}

theorem frame_TV (hR : DRun P X call L ms ord O F M C V H) (hn : LFok (F 0)) : ∀ q, q ≤ ord.length → ((F q).nt = (F 0).nt ∧ LFok (F q)) ∧ ∀ t, (F q).get t = TV O V (F 0) (fun _ => true) q t := by
  intro q
  induction q with
  | zero => intro _; exact ⟨⟨rfl, hn⟩, fun _ => rfl⟩
  | succ q ih =>
    intro hq
    obtain ⟨⟨h1, h0⟩, h2⟩ := ih (by omega)
    obtain ⟨i, hi⟩ := ord_at (ord := ord) (q := q) (by omega)
    have hp := hR.put q i hi
    cases hd : (O q).dst with
    | none =>
      rw [hd] at hp
      simp only [LF.put, Option.some.injEq] at hp
      refine ⟨by rw [← hp]; exact ⟨h1, h0⟩, fun t => ?_⟩
      rw [← hp, h2 t]
      simp [TV, hd]
    | some d =>
      rw [hd] at hp
      obtain ⟨a1, a0, a2, a3⟩ := LF.get_put h0 hp
      refine ⟨⟨a1.trans h1, a0⟩, fun t => ?_⟩
      rw [a3 t, h2 t]
      simp only [TV, hd, Option.some.injEq]
      by_cases ht : t = d
      · subst ht; simp
      · rw [if_neg ht, if_neg (fun h => ht h.2.symm)]

theorem TV_agree {f0 : LF} {S S' : Nat → Bool} {t : Nat} : ∀ q, (∀ k, k < q → (O k).dst = some t → S k = S' k) → TV O V f0 S q t = TV O V f0 S' q t := by
  have _s := SymV.val
  intro q
  induction q with
  | zero => intro _; rfl
  | succ q ih =>
    intro h
    have h1 := ih fun k hk => h k (by omega)
    simp only [TV]
    by_cases hd : (O q).dst = some t
    · rw [h q (by omega) hd, h1]
    · rw [if_neg (fun x => hd x.2), if_neg (fun x => hd x.2), h1]

theorem TV_tail {f0 : LF} {S : Nat → Bool} {t q : Nat} : ∀ n, q ≤ n → (∀ k, q ≤ k → k < n → (O k).dst = some t → S k = false) → TV O V f0 S n t = TV O V f0 S q t := by
  have _s := SymV.val
  intro n
  induction n with
  | zero => intro h _; have : q = 0 := by omega
            subst this; rfl
  | succ n ih =>
    intro hq h
    by_cases he : q = n + 1
    · rw [he]
    · have h1 := ih (by omega) fun k a b => h k a (by omega)
      simp only [TV]
      rw [if_neg ?_, h1]
      rintro ⟨a, b⟩
      rw [h n (by omega) (by omega) b] at a; cases a

def sel (ord : List Nat) (listed : Array Bool) (q : Nat) : Bool :=
  match ord[q]? with
  | some i => listed.getD i false
  | none => false

theorem sel_at {listed : Array Bool} {q i : Nat} (h : ord[q]? = some i) : sel ord listed q = listed.getD i false := by
  have _s := SymV.val
  simp [sel, h]

theorem sel_lt {listed : Array Bool} {q : Nat} (h : sel ord listed q = true) : q < ord.length := by
  have _s := SymV.val
  rcases Nat.lt_or_ge q ord.length with h' | h'
  · exact h'
  · simp [sel, List.getElem?_eq_none h'] at h

structure DInv (P : Program) (L : List Oper) (ord : List Nat) (O : Nat → Oper) (F : Nat → LF) (M : Nat → LMem) (V : Nat → Value) (φ0 : Phi) (w0 : World) (a0 : Act) (listed : Array Bool) (a : Act) (w : World) (p : Nat) (φ : Phi) : Prop where
  size : listed.size = L.length
  cl : Cl L (fun i => listed.getD i false = true)
  ple : p ≤ ord.length
  pform : p = 0 ∨ isE L O F (p - 1)
  below : ∀ q, q < p → sel ord listed q = true
  above : ∀ q, p ≤ q → sel ord listed q = true → ¬ isE L O F q
  tsize : a.tmps.size = (F 0).nt
  tmps : ∀ t, VR φ (TV O V (F 0) (sel ord listed) ord.length t) (a.tmps.getD t undef)
  defers : a.defers = a0.defers
  live : ∀ id l, φ id = some (some l) → (id < (M p).next ∧ ∃ b, (M p).get id = some b ∧ BR φ b l w) ∨
    (∃ q, p ≤ q ∧ sel ord listed q = true ∧ isA P L O F q ∧ id = (M q).next ∧ ∃ b, (M (q + 1)).get id = some b ∧ BR φ b l w)
  dead : ∀ id, φ id = some none → id < (M p).next ∧ (φ.nl id = false → (M p).get id = some .dead) ∧ (φ.nl id = true → ∃ ro k s, (M p).get id = some (.lst ro k s) ∧ SymV.lst s = .slice none 0 0)
  inj : ∀ id jd l l', φ id = some (some l) → φ jd = some (some l') → l.b = l'.b → id = jd
  sim : Sim (M 0).next φ0 φ w0 w
  pin : Pin φ w

theorem binds_eq (e : Edge) : Region.binds .any e = bnd e := by
  have _s := SymV.val
  unfold Region.binds bnd
  cases e.ground <;> rfl

variable {φ0 φ : Phi} {w0 w : World} {a0 a : Act} {listed : Array Bool} {p : Nat}

/-- what is known of an operation that may come up -/
structure Rdy (L : List Oper) (ms ord : List Nat) (O : Nat → Oper) (listed : Array Bool) (p j q : Nat) : Prop where
  at_ : ord[q]? = some j
  op : L[j]? = some (O q)
  un : sel ord listed q = false
  ge : p ≤ q
  direct : ∀ e ∈ (O q).after.toList, bnd e = true → listed.getD e.on false = true
  anc : ∀ i, tb (ms.getD j 0) i = true → listed.getD i false = true

theorem listed_lt {i : Nat} (h : listed.getD i false = true) : i < listed.size := by
  have _s := SymV.val
  rcases Nat.lt_or_ge i listed.size with h' | h'
  · exact h'
  · simp [Array.getElem?_eq_none h'] at h

theorem ready_pos {ops : Array Oper} (hG : RegOK ops.toList (masks ops.toList []) ord) (hR : DRun P X call ops.toList (masks ops.toList []) ord O F M C V H)
    (hI : DInv P ops.toList ord O F M V φ0 w0 a0 listed a w p φ) {j : Nat} (hj : j ∈ Region.ready .any ops listed) : ∃ q, Rdy ops.toList (masks ops.toList []) ord O listed p j q := by
  rw [mem_ready] at hj
  obtain ⟨h0, o, ho, hall⟩ := hj
  have hlt : j < ops.toList.length := by simpa using (Array.getElem?_eq_some_iff.1 ho).1
  obtain ⟨q, hq⟩ := hG.all j hlt
  have hop := hR.op q j hq
  have hoo : O q = o := by
    have : ops.toList[j]? = some o := by simpa using ho
    rw [this] at hop; cases hop; rfl
  have hfalse : listed.getD j false = false := by
    have : j < listed.size := by rw [hI.size]; exact hlt
    simp [this] at h0 ⊢; exact h0
  have hdir : ∀ e ∈ (O q).after.toList, bnd e = true → listed.getD e.on false = true := fun e he hb => by
    rw [hoo] at he
    exact hall e (by simpa using he) (by rw [binds_eq]; exact hb)
  refine ⟨q, hq, hop, by rw [sel_at hq]; exact hfalse, ?_, hdir, ?_⟩
  · rcases Nat.lt_or_ge q p with h | h
    · have := hI.below q h
      rw [sel_at hq, hfalse] at this; cases this
    · exact h
  · exact mask_closed hI.cl (fun i hi => by have := listed_lt hi; rw [hI.size] at this; exact this) j (O q) hop hdir

variable {ops : Array Oper} {j q : Nat}

/-- no position that waits for q has come up -/
theorem later_un (hI : DInv P L ord O F M V φ0 w0 a0 listed a w p φ) (hr : Rdy L ms ord O listed p j q) (hms : ms = masks L []) (hR : DRun P X call L ms ord O F M C V H) {q' i' : Nat} (h' : ord[q']? = some i')
    (hb : tb (ms.getD i' 0) j = true) : sel ord listed q' = false := by
  cases hs : sel ord listed q' with
  | false => rfl
  | true =>
    rw [sel_at h'] at hs
    have hop := hR.op q' i' h'
    subst hms
    have := mask_closed hI.cl (fun i hi => by have := listed_lt hi; rw [hI.size] at this; exact this) i' (O q') hop (hI.cl i' (O q') hop hs) j hb
    have hun := hr.un
    rw [sel_at hr.at_, this] at hun; cases hun

theorem writers (hG : RegOK L ms ord) (hms : ms = masks L []) (hR : DRun P X call L ms ord O F M C V H) (hI : DInv P L ord O F M V φ0 w0 a0 listed a w p φ) (hr : Rdy L ms ord O listed p j q) {t : Nat} (ht : t ∈ namesOf L (O q))
    {k : Nat} (hk : k < ord.length) (hne : k ≠ q) (hd : (O k).dst = some t) : (k < q → sel ord listed k = true) ∧ (q < k → sel ord listed k = false) := by
  obtain ⟨i, hi⟩ := ord_at (ord := ord) hk
  have hoi := hR.op k i hi
  have hij : i ≠ j := fun h => hne (hG.inj k q i hi (by rw [h]; exact hr.at_))
  have h3 := hG.tmps i j (O k) (O q) t hoi hr.op hij hd ht
  refine ⟨fun hlt => ?_, fun hgt => ?_⟩
  · rcases h3 with h3 | h3
    · rw [sel_at hi]; exact hr.anc i h3
    · obtain ⟨q', hq', he⟩ := hG.ahead k i j hi h3
      have := hG.inj q' q j he hr.at_
      omega
  · rcases h3 with h3 | h3
    · obtain ⟨q', hq', he⟩ := hG.ahead q j i hr.at_ h3
      have := hG.inj q' k i he hi
      omega
    · exact later_un hI hr hms hR hi h3

/-- what q looks at stands as the logical run has it -/
theorem tmp_at (hG : RegOK L ms ord) (hms : ms = masks L []) (hR : DRun P X call L ms ord O F M C V H) (hn : LFok (F 0)) (hI : DInv P L ord O F M V φ0 w0 a0 listed a w p φ) (hr : Rdy L ms ord O listed p j q) {t : Nat}
    (ht : t ∈ tmpsOf L (O q)) : VR φ ((F q).get t) (a.tmps.getD t undef) := by
  have hq : q < ord.length := (List.getElem?_eq_some_iff.1 hr.at_).1
  have htn : t ∈ namesOf L (O q) := List.mem_append_right _ ht
  have h1 : TV O V (F 0) (sel ord listed) ord.length t = TV O V (F 0) (sel ord listed) q t := by
    refine TV_tail _ (by omega) fun k hk hkn hd => ?_
    by_cases he : k = q
    · rw [he]; exact hr.un
    · exact (writers hG hms hR hI hr htn hkn he hd).2 (by omega)
  have h2 : TV O V (F 0) (sel ord listed) q t = TV O V (F 0) (fun _ => true) q t := by
    refine TV_agree q fun k hk hd => ?_
    exact (writers hG hms hR hI hr htn (by omega) (by omega) hd).1 hk
  have := hI.tmps t
  rw [h1, h2, ← (frame_TV hR hn q (by omega)).2 t] at this
  exact this

theorem operand_at (hG : RegOK L ms ord) (hms : ms = masks L []) (hR : DRun P X call L ms ord O F M C V H) (hn : LFok (F 0)) (hI : DInv P L ord O F M V φ0 w0 a0 listed a w p φ) (hr : Rdy L ms ord O listed p j q) :
    ∀ x ∈ (O q).op.operands.toList, VR φ ((F q).lev x) (a.eval x) := by
  intro x hx
  have hok : okOperand x = true := List.all_eq_true.1 (List.all_eq_true.1 hG.ok (O q) (List.mem_of_getElem? hr.op)) x hx
  cases x with
  | tmp t =>
    refine tmp_at hG hms hR hn hI hr (List.mem_append_left _ ?_)
    exact List.mem_filterMap.2 ⟨.tmp t, hx, rfl⟩
  | const v => exact VR.refl 7 v (Nat.eq_of_beq_eq_true hok)
  | global g => cases hok
  | func g => exact .func _ _ _ _ _ .nil .nil

theorem wanted_at {ops : Array Oper} (hG : RegOK ops.toList ms ord) (hms : ms = masks ops.toList []) (hR : DRun P X call ops.toList ms ord O F M C V H) (hn : LFok (F 0)) (hI : DInv P ops.toList ord O F M V φ0 w0 a0 listed a w p φ)
    (hr : Rdy ops.toList ms ord O listed p j q) {wt : Bool} (hwt : lwanted ops.toList (O q) (F q) = some wt) : Region.wanted (O q) (yielded ops a.tmps) = wt := by
  have hq : q < ord.length := (List.getElem?_eq_some_iff.1 hr.at_).1
  refine wanted_sim (φ := φ) (fun g wt2 d hg hd => tmp_at hG hms hR hn hI hr (List.mem_append_right _ ?_)) (by rw [hI.tsize, (frame_TV hR hn q (by omega)).1.1]) hwt
  rw [hg]
  simp
  exact hd

theorem sel_set (hG : RegOK L ms ord) (hsz : listed.size = L.length) (hr : Rdy L ms ord O listed p j q) (k : Nat) : sel ord (listed.setIfInBounds j true) k = if k = q then true else sel ord listed k := by
  have hjl : j < listed.size := by rw [hsz]; exact hG.lt q j hr.at_
  by_cases hk : k = q
  · subst hk
    rw [sel_at hr.at_, if_pos rfl]
    simp [hjl]
  · rw [if_neg hk]
    cases hi : ord[k]? with
    | none => simp [sel, hi]
    | some i =>
      rw [sel_at hi, sel_at hi]
      have hne : j ≠ i := fun h => hk (hG.inj k q i hi (by rw [← h]; exact hr.at_))
      exact getD_set_ne false hne

theorem cl_set (hI : DInv P L ord O F M V φ0 w0 a0 listed a w p φ) (hr : Rdy L ms ord O listed p j q) : Cl L (fun i => (listed.setIfInBounds j true).getD i false = true) := by
  have _s := SymV.val
  intro i o ho hi e he hb
  by_cases hij : i = j
  · subst hij
    have := hr.op
    rw [ho] at this; cases this
    exact getD_set_true (hr.direct e he hb)
  · rw [getD_set_ne false (Ne.symm hij)] at hi
    exact getD_set_true (hI.cl i o ho hi e he hb)

theorem tmps_put (hG : RegOK L ms ord) (hms : ms = masks L []) (hR : DRun P X call L ms ord O F M C V H) (hn : LFok (F 0)) (hI : DInv P L ord O F M V φ0 w0 a0 listed a w p φ) (hr : Rdy L ms ord O listed p j q) {φ' : Phi} {v' : Value}
    (hext : Ext φ φ') (hv : VR φ' (V q) v') : (a.put (O q).dst v').tmps.size = (F 0).nt ∧ ∀ t, VR φ' (TV O V (F 0) (sel ord (listed.setIfInBounds j true)) ord.length t) ((a.put (O q).dst v').tmps.getD t undef) := by
  have hq : q < ord.length := (List.getElem?_eq_some_iff.1 hr.at_).1
  have hsel := sel_set hG hI.size hr
  have hput := hR.put q j hr.at_
  cases hd : (O q).dst with
  | none =>
    refine ⟨hI.tsize, fun t => ?_⟩
    have : TV O V (F 0) (sel ord (listed.setIfInBounds j true)) ord.length t = TV O V (F 0) (sel ord listed) ord.length t := by
      refine TV_agree _ fun k hk hdk => ?_
      rw [hsel k]
      by_cases he : k = q
      · rw [he, hd] at hdk; cases hdk
      · rw [if_neg he]
    rw [this]
    exact (hI.tmps t).mono hext
  | some d =>
    rw [hd] at hput
    obtain ⟨hnq, hnok⟩ := (frame_TV hR hn q (by omega)).1
    obtain ⟨_, _, hdlt, _⟩ := LF.get_put hnok hput
    rw [hnq] at hdlt
    refine ⟨by simp [Act.put, hI.tsize], fun t => ?_⟩
    by_cases ht : t = d
    · subst ht
      have h1 : TV O V (F 0) (sel ord (listed.setIfInBounds j true)) ord.length t = TV O V (F 0) (sel ord (listed.setIfInBounds j true)) (q + 1) t := by
        refine TV_tail _ (by omega) fun k hk hkn hdk => ?_
        rw [hsel k, if_neg (by omega)]
        exact (writers hG hms hR hI hr (List.mem_append_left _ (by rw [hd]; simp)) hkn (by omega) hdk).2 (by omega)
      rw [h1]
      have h2 : TV O V (F 0) (sel ord (listed.setIfInBounds j true)) (q + 1) t = V q := by
        simp only [TV]
        rw [if_pos ⟨by rw [hsel q, if_pos rfl], hd⟩]
      rw [h2]
      have h3 : (a.put (some t) v').tmps.getD t undef = v' := by
        simp [Act.put, hI.tsize, hdlt]
      rw [h3]; exact hv
    · have h1 : TV O V (F 0) (sel ord (listed.setIfInBounds j true)) ord.length t = TV O V (F 0) (sel ord listed) ord.length t := by
        refine TV_agree _ fun k hk hdk => ?_
        rw [hsel k]
        by_cases he : k = q
        · rw [he, hd] at hdk; cases hdk; exact absurd rfl ht
        · rw [if_neg he]
      rw [h1]
      have h3 : (a.put (some d) v').tmps.getD t undef = a.tmps.getD t undef := by
        simp [Act.put, Array.getElem?_setIfInBounds_ne (Ne.symm ht)]
      rw [h3]
      exact (hI.tmps t).mono hext
end
end Go.Eng
/- A region that draws its order: each step, the end, the whole. -/
namespace Go.Eng
variable [SymV]
section
variable {P : Program} {X : ExtT} {call : CallT}
variable {ms ord : List Nat} {O : Nat → Oper} {F : Nat → LF} {M C : Nat → LMem} {V : Nat → Value} {H : Nat → List (Nat × (Nat → Option LB))}
variable {φ0 φ : Phi} {w0 w : World} {a0 a : Act} {listed : Array Bool} {p : Nat} {ops : Array Oper} {j q : Nat}

/-- all that the region's run has fixed -/
structure Ctx (P : Program) (X : ExtT) (call : CallT) (ops : Array Oper) (ms ord : List Nat) (O : Nat → Oper) (F : Nat → LF) (M C : Nat → LMem) (V : Nat → Value) (H : Nat → List (Nat × (Nat → Option LB))) : Prop where
  hP : POK P X
  hc : CallSound P call
  hG : RegOK ops.toList ms ord
  hms : ms = masks ops.toList []
  hR : DRun P X call ops.toList ms ord O F M C V H
  hn : LFok (F 0)
  hw : WF (M 0)
  hC : C 0 = M 0

/-- positions between p and q without an effect -/
theorem mrp_same (c : Ctx P X call ops ms ord O F M C V H) (hI : DInv P ops.toList ord O F M V φ0 w0 a0 listed a w p φ) (hq : q ≤ ord.length) (hpq : p ≤ q) (hne : ∀ q', p ≤ q' → q' < q → ¬ isE ops.toList O F q') : MRp φ (M q).get w := by
  intro id b hb
  obtain ⟨hwq, hmono⟩ := run_wf c.hP c.hc c.hR c.hw q hq
  have hbt := mem_between c.hP c.hc c.hR c.hw q hpq hq hne
  refine ⟨fun l hl => ?_, fun hd hn => ?_, fun hd hn => ?_⟩
  · rcases hI.live id l hl with ⟨h1, b', h2, h3⟩ | ⟨q', h1, h2, h3, h4, b', h5, h6⟩
    · rw [hbt id h1, h2] at hb; cases hb; exact h3
    · have hq'n := sel_lt h2
      obtain ⟨i, hi⟩ := ord_at (ord := ord) hq'n
      obtain ⟨hwq', _⟩ := run_wf c.hP c.hc c.hR c.hw q' (by omega)
      obtain ⟨_, _, _, k3, _⟩ := alc_at c.hR hi hwq' h3
      rcases Nat.lt_or_ge q' q with hlt | hge
      · have := mem_between c.hP c.hc c.hR c.hw (p := q' + 1) q (by omega) hq (fun x hx hx' => hne x (by omega) hx') id (by omega)
        rw [this, h5] at hb; cases hb; exact h6
      · obtain ⟨_, hm'⟩ := run_wf c.hP c.hc c.hR c.hw q' (by omega)
        have := hm' q hge
        rw [LMem.get_none (by omega)] at hb; cases hb
  · obtain ⟨h1, h2, _⟩ := hI.dead id hd
    rw [hbt id h1, h2 hn] at hb; cases hb; rfl
  · obtain ⟨h1, _, h2⟩ := hI.dead id hd
    obtain ⟨ro, k, s, q1, q2⟩ := h2 hn
    rw [hbt id h1, q1] at hb; cases hb; exact ⟨ro, k, s, rfl, q2⟩

/-- the first effect at or behind p and before q -/
theorem first_eff (O : Nat → Oper) (F : Nat → LF) (L : List Oper) (p : Nat) : ∀ q, p ≤ q → (∀ q', p ≤ q' → q' < q → ¬ isE L O F q') ∨ ∃ e, p ≤ e ∧ e < q ∧ isE L O F e ∧ ∀ q', p ≤ q' → q' < e → ¬ isE L O F q' := by
  have _s := SymV.val
  intro q
  induction q with
  | zero => intro h; exact .inl fun q' _ h' => by omega
  | succ q ih =>
    intro h
    by_cases he : p = q + 1
    · exact .inl fun q' h1 h2 => by omega
    · rcases ih (by omega) with h1 | ⟨e, h1, h2, h3, h4⟩
      · by_cases hq : isE L O F q
        · exact .inr ⟨q, by omega, by omega, hq, h1⟩
        · refine .inl fun q' ha hb => ?_
          by_cases hqq : q' = q
          · rw [hqq]; exact hq
          · exact h1 q' ha (by omega)
      · exact .inr ⟨e, h1, by omega, h3, h4⟩

/-- the invariant where nothing but a temporary changes -/
theorem inv_quiet (c : Ctx P X call ops ms ord O F M C V H) (hI : DInv P ops.toList ord O F M V φ0 w0 a0 listed a w p φ) (hr : Rdy ops.toList ms ord O listed p j q) (hne : ¬ isE ops.toList O F q) {v' : Value} (hv : VR φ (V q) v') :
    DInv P ops.toList ord O F M V φ0 w0 a0 (listed.setIfInBounds j true) (a.put (O q).dst v') w p φ := by
  have hsel := sel_set c.hG hI.size hr
  obtain ⟨t1, t2⟩ := tmps_put c.hG c.hms c.hR c.hn hI hr (Ext.refl φ) hv
  refine ⟨by simp [hI.size], cl_set hI hr, hI.ple, hI.pform, fun k hk => ?_, fun k hk hs => ?_, t1, t2, by rw [put_defers]; exact hI.defers, fun id l hl => ?_, hI.dead, hI.inj, hI.sim, hI.pin⟩
  · rw [hsel k]; split
    · rfl
    · exact hI.below k hk
  · rw [hsel k] at hs
    by_cases he : k = q
    · rw [he]; exact hne
    · rw [if_neg he] at hs; exact hI.above k hk hs
  · rcases hI.live id l hl with h | ⟨q', h1, h2, h3⟩
    · exact .inl h
    · refine .inr ⟨q', h1, ?_, h3⟩
      rw [hsel q']; split
      · rfl
      · exact h2

theorem quiet_run (c : Ctx P X call ops ms ord O F M C V H) (hI : DInv P ops.toList ord O F M V φ0 w0 a0 listed a w p φ) (hr : Rdy ops.toList ms ord O listed p j q)
    (hq : qop P (M q).get (F q).lev (O q) = some (V q)) (hs : (looks (O q).op || looksR (F q).lev (O q).op) = false ∨ stable P (F q) (O q) (V q) (ms.getD j 0) (H q) = true) :
    ∃ v', (execOp a.eval (O q)).run P w = .ok (.value v') w ∧ VR φ (V q) v' := by
  have hql : q < ord.length := (List.getElem?_eq_some_iff.1 hr.at_).1
  have hρ := operand_at c.hG c.hms c.hR c.hn hI hr
  cases hlk : (looks (O q).op || looksR (F q).lev (O q).op) with
  | false =>
    have hq' : qop P (fun _ => none) (F q).lev (O q) = some (V q) := by rw [qop_pure (g' := (M q).get) (Bool.or_eq_false_iff.1 hlk).1 (Bool.or_eq_false_iff.1 hlk).2]; exact hq
    exact qsim (P := P) (fun id b hb => by cases hb) hI.pin hρ hq'
  | true =>
    rw [hlk] at hs
    have hs := hs.resolve_left (by simp)
    rcases first_eff O F ops.toList p q hr.ge with hno | ⟨e, h1, h2, h3, h4⟩
    · exact qsim (P := P) (mrp_same c hI (by omega) hr.ge hno) hI.pin hρ hq
    · obtain ⟨i, l1, l2, G, g1, g2, g3, g4, g5, g6⟩ := hist_at c.hP c.hc c.hR c.hw h3 q h2 (by omega)
      have hun : ∀ e', p ≤ e' → isE ops.toList O F e' → ∀ i', ord[e']? = some i' → tb (ms.getD j 0) i' = false := by
        intro e' he' hE i' hi'
        cases htb : tb (ms.getD j 0) i' with
        | false => rfl
        | true =>
          have := hr.anc i' htb
          exact absurd hE (hI.above e' he' (by rw [sel_at hi']; exact this))
      rw [g2] at hs
      have hqop := stable_at hs (fun x hx => by
        obtain ⟨e', k1, k2, k3, k4⟩ := g3 x hx
        exact hun e' (by omega) k3 x.1 k4) (hun e h1 h3 i g1)
      refine qsim (P := P) ?_ hI.pin hρ hqop
      -- the memory ahead of the effect, with the blocks made since
      obtain ⟨hwe, hme⟩ := run_wf c.hP c.hc c.hR c.hw e (by omega)
      have hbt := mem_between c.hP c.hc c.hR c.hw e h1 (by omega) h4
      have hpe := hme p h1
      intro id b hb
      refine ⟨fun l hl => ?_, fun hd hn => ?_, fun hd hn => ?_⟩
      · rcases hI.live id l hl with ⟨k1, b', k2, k3⟩ | ⟨q', k1, k2, k3, k4, b', k5, k6⟩
        · rw [g4 id (by omega), hbt id k1, k2] at hb
          cases hb; exact k3
        · have hq'n := sel_lt k2
          obtain ⟨i', hi'⟩ := ord_at (ord := ord) hq'n
          obtain ⟨hwq', _⟩ := run_wf c.hP c.hc c.hR c.hw q' (by omega)
          obtain ⟨_, _, _, a3, _⟩ := alc_at c.hR hi' hwq' k3
          have hne : q' ≠ e := fun h => by rw [h] at k3; have := k3.2.1; rw [h3.2] at this; cases this
          have hnq : q' ≠ q := fun h => by rw [h] at k2; rw [hr.un] at k2; cases k2
          rcases Nat.lt_or_ge q' e with hlt | hge
          · have := mem_between c.hP c.hc c.hR c.hw (p := q' + 1) e (by omega) (by omega) (fun x hx hx' => h4 x (by omega) hx') id (by omega)
            have hl := hme (q' + 1) (by omega)
            rw [g4 id (by omega), this, k5] at hb
            cases hb; exact k6
          · rcases Nat.lt_or_ge q' q with hlt | hge2
            · have := g5 q' (by omega) hlt k3
              rw [k4, this, ← k4, k5] at hb
              cases hb; exact k6
            · exfalso
              obtain ⟨_, hmq'⟩ := run_wf c.hP c.hc c.hR c.hw q' (by omega)
              have := hmq' q (by omega)
              -- a number that is not there yet
              exact g6 id (by omega) b hb
      · obtain ⟨k1, k2, _⟩ := hI.dead id hd
        rw [g4 id (by omega), hbt id k1, k2 hn] at hb; cases hb; rfl
      · obtain ⟨k1, _, k2⟩ := hI.dead id hd
        obtain ⟨ro, k, s, q1, q2⟩ := k2 hn
        rw [g4 id (by omega), hbt id k1, q1] at hb; cases hb; exact ⟨ro, k, s, rfl, q2⟩

/-- a block made at q has a number of its own -/
theorem alc_fresh (c : Ctx P X call ops ms ord O F M C V H) (hI : DInv P ops.toList ord O F M V φ0 w0 a0 listed a w p φ) (hr : Rdy ops.toList ms ord O listed p j q) {N : Nat} (hN1 : (M q).next ≤ N) (hN2 : N < (M (q + 1)).next) : φ N = none := by
  have hql : q < ord.length := (List.getElem?_eq_some_iff.1 hr.at_).1
  cases he : φ N with
  | none => rfl
  | some x =>
    exfalso
    obtain ⟨hwq, hmq⟩ := run_wf c.hP c.hc c.hR c.hw q (by omega)
    have hpq := hmq p hr.ge
    cases x with
    | none =>
      obtain ⟨h1, _⟩ := hI.dead N he
      omega
    | some l =>
      rcases hI.live N l he with ⟨h1, _⟩ | ⟨q', h1, h2, h3, h4, _⟩
      · omega
      · have hq'n := sel_lt h2
        obtain ⟨i, hi⟩ := ord_at (ord := ord) hq'n
        obtain ⟨hwq', hmq'⟩ := run_wf c.hP c.hc c.hR c.hw q' (by omega)
        obtain ⟨_, _, _, k3, _⟩ := alc_at c.hR hi hwq' h3
        have hne : q' ≠ q := fun h => by rw [h] at h2; rw [hr.un] at h2; cases h2
        rcases Nat.lt_or_ge q' q with hlt | hge
        · have := hmq (q' + 1) (by omega); omega
        · have := hmq' (q + 1) (by omega); omega

theorem inv_alc (c : Ctx P X call ops ms ord O F M C V H) (hI : DInv P ops.toList ord O F M V φ0 w0 a0 listed a w p φ) (hr : Rdy ops.toList ms ord O listed p j q) (ha : isA P ops.toList O F q) :
    ∃ v' obj, ∃ wz : World, ∃ φ', (execOp a.eval (O q)).run P w = .ok (.value v') (wz.alloc obj) ∧ DInv P ops.toList ord O F M V φ0 w0 a0 (listed.setIfInBounds j true) (a.put (O q).dst v') (wz.alloc obj) p φ' := by
  have hql : q < ord.length := (List.getElem?_eq_some_iff.1 hr.at_).1
  obtain ⟨hwq, hmq⟩ := run_wf c.hP c.hc c.hR c.hw q (by omega)
  obtain ⟨b, k1, k2, k3, k4⟩ := alc_at c.hR hr.at_ hwq ha
  have hfr := alc_fresh c hI hr (N := (M q).next) (Nat.le_refl _) (by omega)
  obtain ⟨v', obj, l, wz, g0, g1, g2, g3, g4⟩ := asim (P := P) (w := w) hfr (operand_at c.hG c.hms c.hR c.hn hI hr) k1
  obtain ⟨e1, e2, e3, e4⟩ : wz.heap = w.heap ∧ wz.os = w.os ∧ wz.tape = w.tape ∧ wz.output = w.output := by rcases g0 with rfl | rfl <;> exact ⟨rfl, rfl, rfl, rfl⟩
  have hext := ins_ext (l := l) hfr
  have hsel := sel_set c.hG hI.size hr
  obtain ⟨t1, t2⟩ := tmps_put c.hG c.hms c.hR c.hn hI hr hext g3
  have hrange : ∀ id l', φ id = some (some l') → l'.b < w.heap.size := fun id l' hl' => by
    rcases hI.live id l' hl' with ⟨_, b', _, h3⟩ | ⟨_, _, _, _, _, b', _, h3⟩
    · exact h3.lt
    · exact h3.lt
  have hold : ∀ k, k < w.heap.size → (wz.alloc obj).heap[k]? = w.heap[k]? := fun k hk => by rw [heap_alloc_lt wz obj k (by rw [e1]; exact hk), e1]
  refine ⟨v', obj, wz, ins φ (M q).next l, g1, ⟨by simp [hI.size], cl_set hI hr, hI.ple, hI.pform, fun k hk => ?_, fun k hk hs => ?_, t1, t2, by rw [put_defers]; exact hI.defers, fun id l' hl' => ?_, fun id hd => ?_, fun id jd l1 l2 h1 h2 h3 => ?_, ?_, hI.pin.mono' rfl (fun id l' hl' => ?_) fun k _ hk _ => hold k hk⟩⟩
  · rw [hsel k]; split
    · rfl
    · exact hI.below k hk
  · rw [hsel k] at hs
    by_cases he : k = q
    · rw [he]; exact fun h => by have := h.2; rw [ha.2.1] at this; cases this
    · rw [if_neg he] at hs; exact hI.above k hk hs
  · by_cases hid : id = (M q).next
    · subst hid
      rw [ins_same] at hl'; cases hl'
      exact .inr ⟨q, hr.ge, by rw [hsel q, if_pos rfl], ha, rfl, b, k4, g4⟩
    · rw [ins_other hid] at hl'
      have hlt := hrange id l' hl'
      rcases hI.live id l' hl' with ⟨h1, b', h2, h3⟩ | ⟨q', h1, h2, h3, h4, b', h5, h6⟩
      · exact .inl ⟨h1, b', h2, h3.mono hext (hold _ hlt)⟩
      · refine .inr ⟨q', h1, ?_, h3, h4, b', h5, h6.mono hext (hold _ hlt)⟩
        rw [hsel q']; split
        · rfl
        · exact h2
  · have hid : id ≠ (M q).next := fun h => by rw [h, ins_same] at hd; cases hd
    rw [ins_other hid] at hd
    exact hI.dead id hd
  · by_cases hid : id = (M q).next
    · by_cases hjd : jd = (M q).next
      · rw [hid, hjd]
      · subst hid
        rw [ins_same] at h1; cases h1
        rw [ins_other hjd] at h2
        have := hrange jd l2 h2
        omega
    · by_cases hjd : jd = (M q).next
      · subst hjd
        rw [ins_same] at h2; cases h2
        rw [ins_other hid] at h1
        have := hrange id l1 h1
        omega
      · rw [ins_other hid] at h1; rw [ins_other hjd] at h2
        exact hI.inj id jd l1 l2 h1 h2 h3
  · refine hI.sim.trans (n' := (M 0).next) (Nat.le_refl _) ⟨hext, fun id l' hl' => ?_, fun id hid h0 => ?_, fun _ _ h => .inl h, ⟨e2, e3, e4, by simp [e1], fun k hk _ => hold k hk⟩⟩
    · by_cases hid : id = (M q).next
      · subst hid; rw [ins_same] at hl'; cases hl'; exact .inr (by omega)
      · rw [ins_other hid] at hl'; exact .inl ⟨id, l', hl', rfl⟩
    · have := hmq 0 (Nat.zero_le _)
      rw [ins_other (by omega)]; exact h0
  · by_cases hid : id = (M q).next
    · subst hid; rw [ins_same] at hl'; cases hl'; exact .inr (by omega)
    · rw [ins_other hid] at hl'; exact .inl ⟨id, l', hl', rfl⟩

theorem inv_eff (c : Ctx P X call ops ms ord O F M C V H) (hI : DInv P ops.toList ord O F M V φ0 w0 a0 listed a w p φ) (hr : Rdy ops.toList ms ord O listed p j q) (he : isE ops.toList O F q)
    (K : Act → World → Prop) (Q : Exit → Act → World → Prop)
    (hK : ∀ φ' w' v', DInv P ops.toList ord O F M V φ0 w0 a0 (listed.setIfInBounds j true) (a.put (O q).dst v') w' (q + 1) φ' → K (a.put (O q).dst v') w') : (O q).wp P a w K Q := by
  have hql : q < ord.length := (List.getElem?_eq_some_iff.1 hr.at_).1
  obtain ⟨hwq, hmq⟩ := run_wf c.hP c.hc c.hR c.hw q (by omega)
  obtain ⟨hwq1, hmq1⟩ := run_wf c.hP c.hc c.hR c.hw (q + 1) (by omega)
  have hN : (M q).next < 1152921504606846976 := by have := hwq.room; omega
  -- all that is ahead of q has come up
  have hall : ∀ q', q' < q → sel ord listed q' = true := by
    intro q' hq'
    obtain ⟨i, hi⟩ := ord_at (ord := ord) (q := q') (by omega)
    rw [sel_at hi]
    exact hr.anc i (c.hG.eff q j (O q) hr.at_ hr.op he.2 q' i hq' hi)
  have hno : ∀ q', p ≤ q' → q' < q → ¬ isE ops.toList O F q' := fun q' h1 h2 => hI.above q' h1 (hall q' h2)
  have hbt := mem_between c.hP c.hc c.hR c.hw q hr.ge (by omega) hno
  have hpart := mrp_same c hI (by omega) hr.ge hno
  have hrange : ∀ id l', φ id = some (some l') → l'.b < w.heap.size := fun id l' hl' => by
    rcases hI.live id l' hl' with ⟨_, b', _, h3⟩ | ⟨_, _, _, _, _, b', _, h3⟩
    · exact h3.lt
    · exact h3.lt
  have hpn := hmq p hr.ge
  -- the blocks below (M q).next
  have hcut : ∀ id x, cut φ (M q).next id = some x → id < (M q).next ∧ φ id = some x := by
    intro id x hx
    by_cases hid : id < (M q).next
    · rw [cut_at hid] at hx; exact ⟨hid, hx⟩
    · rw [cut_none (by omega)] at hx; cases hx
  have hmr : MR (cut φ (M q).next) (M q).get w := by
    refine ⟨fun id l hl => ?_, fun id hd hn => ?_, fun id hd hn => ?_, fun id jd l l' h1 h2 h3 => ?_, hI.pin.sub rfl fun id l hl => ⟨id, l, (hcut id _ hl).2, rfl⟩⟩
    · obtain ⟨hid, hl'⟩ := hcut id _ hl
      have hsome : ∃ b, (M q).get id = some b := by
        rcases hI.live id l hl' with ⟨h1, b', h2, h3⟩ | ⟨q', h1, h2, h3, h4, b', h5, h6⟩
        · exact ⟨b', by rw [hbt id h1]; exact h2⟩
        · have hq'n := sel_lt h2
          obtain ⟨i, hi⟩ := ord_at (ord := ord) hq'n
          obtain ⟨hwq', hmq'⟩ := run_wf c.hP c.hc c.hR c.hw q' (by omega)
          obtain ⟨_, _, _, k3, _⟩ := alc_at c.hR hi hwq' h3
          rcases Nat.lt_or_ge q' q with hlt | hge
          · refine ⟨b', ?_⟩
            rw [mem_between c.hP c.hc c.hR c.hw (p := q' + 1) q (by omega) (by omega) (fun x hx hx' => hno x (by omega) hx') id (by omega)]
            exact h5
          · have := hmq' q hge; omega
      obtain ⟨b, hb⟩ := hsome
      exact ⟨b, hb, ((hpart id b hb).1 l hl').cut hN (hwq.closed id b hb)⟩
    · obtain ⟨hid, hd'⟩ := hcut id _ hd
      obtain ⟨h1, h2, _⟩ := hI.dead id hd'
      rw [hbt id h1]; exact h2 hn
    · obtain ⟨hid, hd'⟩ := hcut id _ hd
      obtain ⟨h1, _, h2⟩ := hI.dead id hd'
      rw [hbt id h1]; exact h2 hn
    · exact hI.inj id jd l l' (hcut id _ h1).2 (hcut jd _ h2).2 h3
  have hbd : Bd (cut φ (M q).next) (M q).next := fun id hid => by
    rcases Nat.lt_or_ge id (M q).next with h | h
    · exact h
    · rw [cut_none h] at hid; exact absurd rfl hid
  cases hR : c.hR.step q j hr.at_ with
  | skip h => rw [he.1] at h; cases h
  | alc _ h => rw [he.2] at h; cases h
  | quiet _ h => rw [he.2] at h; cases h
  | eff _ _ hub hd hC hH =>
    have hρ : ∀ x ∈ (O q).op.operands.toList, VR (cut φ (M q).next) ((F q).lev x) (a.eval x) := by
      intro x hx
      have hv := operand_at c.hG c.hms c.hR c.hn hI hr x hx
      refine hv.cut hN 7 ?_
      have hok : okOperand x = true := List.all_eq_true.1 (List.all_eq_true.1 c.hG.ok (O q) (List.mem_of_getElem? hr.op)) x hx
      cases x with
      | tmp t => exact hub t (List.mem_append_left _ (List.mem_filterMap.2 ⟨.tmp t, hx, rfl⟩))
      | const v => have := Nat.eq_of_beq_eq_true hok; show ub v ≤ _; omega
      | global g => cases hok
      | func g => exact Nat.zero_le _
    obtain ⟨_, hgive⟩ := doEff_sim c.hP c.hc hwq hd
    refine hgive _ w a hmr hbd hρ K Q fun φ2 w' v' hs hv hm2 hb2 => ?_
    have hb2n : ∀ id x, φ2 id = some x → id < (M (q + 1)).next := fun id x hx => hb2 id (by rw [hx]; simp)
    have hle : (M q).next ≤ (M (q + 1)).next := hmq1 q (by omega)
    have hfresh : ∀ N, (M q).next ≤ N → N < (M (q + 1)).next → φ N = none := fun N h1 h2 => alc_fresh c hI hr h1 h2
    -- the new map of blocks
    have hphi : ∃ φ' : Phi, (∀ id, id < (M (q + 1)).next → φ' id = φ2 id ∧ φ'.nl id = φ2.nl id) ∧ (∀ id, (M (q + 1)).next ≤ id → φ' id = φ id ∧ φ'.nl id = φ.nl id) ∧ φ'.fz = φ2.fz :=
      ⟨⟨fun id => if id < (M (q + 1)).next then φ2 id else φ id, φ2.fz, fun id => if id < (M (q + 1)).next then φ2.nl id else φ.nl id⟩, fun id h => by simp [h], fun id h => by simp [Nat.not_lt.2 h], rfl⟩
    obtain ⟨φ', hlo', hhi', hfz⟩ := hphi
    have hlo : ∀ id, id < (M (q + 1)).next → φ' id = φ2 id := fun id h => (hlo' id h).1
    have hhi : ∀ id, (M (q + 1)).next ≤ id → φ' id = φ id := fun id h => (hhi' id h).1
    have hext : Ext φ φ' := by
      refine ⟨fun id hid => ?_, fun b o hb => by rw [hfz]; exact hs.ext.fz b o hb, fun id hid h1 h2 => ?_⟩
      · rcases Nat.lt_or_ge id (M (q + 1)).next with h | h
        · rw [hlo id h]
          rcases Nat.lt_or_ge id (M q).next with h' | h'
          · have := hs.ext.ids id (by rw [cut_at h']; exact hid)
            rw [cut_at h'] at this; exact this
          · exact absurd (hfresh id h' h) hid
        · exact .inl (hhi id h)
      · rcases Nat.lt_or_ge id (M (q + 1)).next with h | h
        · rw [hlo id h] at h1
          rw [(hlo' id h).2] at h2
          rcases Nat.lt_or_ge id (M q).next with h' | h'
          · have := hs.ext.nl id (by rw [cut_at h']; exact hid) h1 h2
            rw [cut_at h'] at this; exact this
          · exact absurd (hfresh id h' h) hid
        · rw [hhi id h] at h1
          rw [(hhi' id h).2] at h2
          exact ⟨h1, h2⟩
    have hext2 : Ext φ2 φ' := ⟨fun id hid => .inl (hlo id (hb2 id hid)), fun b o hb => by rw [hfz]; exact hb, fun id hid h1 h2 => by
      have h := hb2 id hid
      rw [hlo id h] at h1
      rw [(hlo' id h).2] at h2
      exact ⟨h1, h2⟩⟩
    have hsel := sel_set c.hG hI.size hr
    obtain ⟨t1, t2⟩ := tmps_put c.hG c.hms c.hR c.hn hI hr hext (hv.mono hext2)
    -- blocks beyond
    have hbeyond : ∀ id l', (M (q + 1)).next ≤ id → φ id = some (some l') → w'.heap[l'.b]? = w.heap[l'.b]? := by
      intro id l' hid hl'
      refine hs.fr.same _ (hrange id l' hl') fun jd l2 hl2 heq => ?_
      obtain ⟨hjd, hl2'⟩ := hcut jd _ hl2
      have := hI.inj jd id l2 l' hl2' hl' heq
      omega
    refine hK φ' w' v' ⟨by simp [hI.size], cl_set hI hr, by omega, .inr (by simpa using he), fun k hk => ?_, fun k hk hs' => ?_, t1, t2, by rw [put_defers]; exact hI.defers, fun id l' hl' => ?_, fun id hd' => ?_, fun id jd l1 l2 h1 h2 h3 => ?_, ?_, ?_⟩
    · rw [hsel k]; split
      · rfl
      · exact hall k (by omega)
    · rw [hsel k, if_neg (by omega)] at hs'
      exact hI.above k (by have := hr.ge; omega) hs'
    · rcases Nat.lt_or_ge id (M (q + 1)).next with h | h
      · rw [hlo id h] at hl'
        obtain ⟨b, g1, g2⟩ := hm2.live id l' hl'
        exact .inl ⟨h, b, g1, g2.mono hext2 rfl⟩
      · rw [hhi id h] at hl'
        rcases hI.live id l' hl' with ⟨h1, _⟩ | ⟨q', h1, h2, h3, h4, b', h5, h6⟩
        · omega
        · have hq'n := sel_lt h2
          obtain ⟨i, hi⟩ := ord_at (ord := ord) hq'n
          obtain ⟨hwq', hmq'⟩ := run_wf c.hP c.hc c.hR c.hw q' (by omega)
          obtain ⟨_, _, _, k3, _⟩ := alc_at c.hR hi hwq' h3
          have hqq : q + 1 ≤ q' := by
            rcases Nat.lt_or_ge q' (q + 1) with hlt | hge
            · exfalso
              have hne : q' ≠ q := fun hx => by rw [hx] at h3; have := h3.2.1; rw [he.2] at this; cases this
              have := hmq (q' + 1) (by omega)
              omega
            · exact hge
          refine .inr ⟨q', hqq, ?_, h3, h4, b', h5, h6.mono hext (hbeyond id l' h hl')⟩
          rw [hsel q']; split
          · rfl
          · exact h2
    · rcases Nat.lt_or_ge id (M (q + 1)).next with h | h
      · rw [hlo id h] at hd'
        exact ⟨h, fun hn => hm2.dead id hd' (by rw [← (hlo' id h).2]; exact hn), fun hn => hm2.nils id hd' (by rw [← (hlo' id h).2]; exact hn)⟩
      · rw [hhi id h] at hd'
        have := (hI.dead id hd').1
        omega
    · have mixed : ∀ id jd l1 l2, id < (M (q + 1)).next → (M (q + 1)).next ≤ jd → φ2 id = some (some l1) → φ jd = some (some l2) → l1.b = l2.b → False := by
        intro id jd l1 l2 hid hjd h1 h2 h3
        have hlt := hrange jd l2 h2
        rcases hs.new id l1 h1 with ⟨kd, l0, g1, g2⟩ | g1
        · obtain ⟨hkd, g1'⟩ := hcut kd _ g1
          have := hI.inj kd jd l0 l2 g1' h2 (g2.trans h3)
          omega
        · omega
      rcases Nat.lt_or_ge id (M (q + 1)).next with h | h
      · rw [hlo id h] at h1
        rcases Nat.lt_or_ge jd (M (q + 1)).next with h' | h'
        · rw [hlo jd h'] at h2; exact hm2.inj id jd l1 l2 h1 h2 h3
        · rw [hhi jd h'] at h2; exact (mixed id jd l1 l2 h h' h1 h2 h3).elim
      · rw [hhi id h] at h1
        rcases Nat.lt_or_ge jd (M (q + 1)).next with h' | h'
        · rw [hlo jd h'] at h2; exact (mixed jd id l2 l1 h' h h2 h1 h3.symm).elim
        · rw [hhi jd h'] at h2; exact hI.inj id jd l1 l2 h1 h2 h3
    · refine hI.sim.trans (n' := (M 0).next) (Nat.le_refl _) ⟨hext, fun id l' hl' => ?_, fun id hid h0 => ?_, fun b o hb => ?_, ⟨hs.fr.os, hs.fr.tape, hs.fr.output, hs.fr.size, fun k hk hk' => ?_⟩⟩
      · rcases Nat.lt_or_ge id (M (q + 1)).next with h | h
        · rw [hlo id h] at hl'
          rcases hs.new id l' hl' with ⟨kd, l0, g1, g2⟩ | g1
          · exact .inl ⟨kd, l0, (hcut kd _ g1).2, g2⟩
          · exact .inr g1
        · rw [hhi id h] at hl'; exact .inl ⟨id, l', hl', rfl⟩
      · have hm0 := hmq 0 (Nat.zero_le _)
        rw [hlo id (by omega)]
        exact hs.un id (by omega) (by rw [cut_at (by omega)]; exact h0)
      · rw [hfz] at hb
        rcases hs.fz b o hb with h | ⟨jd, l0, g1, g2⟩ | h
        · exact .inl h
        · exact .inr (.inl ⟨jd, l0, (hcut jd _ g1).2, g2⟩)
        · exact .inr (.inr h)
      · exact hs.fr.same k hk fun id l hl => hk' id l (hcut id _ hl).2
    · refine ⟨fun b o hb => hm2.pin.at_ b o (by rw [← hfz]; exact hb), fun b o hb id l hl heq => ?_⟩
      rw [hfz] at hb
      rcases Nat.lt_or_ge id (M (q + 1)).next with h | h
      · rw [hlo id h] at hl
        exact hm2.pin.off b o hb id l hl heq
      · rw [hhi id h] at hl
        rcases hs.fz b o hb with h' | ⟨jd, l0, g1, g2⟩ | h'
        · exact hI.pin.off b o h' id l hl heq
        · obtain ⟨hjd, g1'⟩ := hcut jd _ g1
          have := hI.inj jd id l0 l g1' hl (g2.trans heq.symm)
          omega
        · have := hrange id l hl; omega
end
end Go.Eng
/- The engine is sound: drawn regions, code, calls. -/
namespace Go.Eng
variable [SymV]
section
variable {P : Program} {X : ExtT} {call : CallT}
variable {ms ord : List Nat} {O : Nat → Oper} {F : Nat → LF} {M C : Nat → LMem} {V : Nat → Value} {H : Nat → List (Nat × (Nat → Option LB))}
variable {φ0 φ : Phi} {w0 w : World} {a0 a : Act} {listed : Array Bool} {p : Nat} {ops : Array Oper} {j q : Nat}

/-- how many positions have not come up -/
def cU (S : Nat → Bool) : Nat → Nat
  | 0 => 0
  | k + 1 => cU S k + (if S k = true then 0 else 1)

theorem cU_zero {S : Nat → Bool} : ∀ {n : Nat}, cU S n = 0 → ∀ q, q < n → S q = true
  | 0, _, q, h => by have _s := SymV.val; have _s := SymV.val; omega
  | n + 1, h, q, hq => by
    simp only [cU] at h
    by_cases hs : S n = true
    · by_cases he : q = n
      · rw [he]; exact hs
      · exact cU_zero (n := n) (by omega) q (by omega)
    · simp [hs] at h

theorem cU_set {S S' : Nat → Bool} {q : Nat} (hq : S q = false) (hs : ∀ k, S' k = if k = q then true else S k) : ∀ {n : Nat}, (q < n → cU S' n + 1 = cU S n) ∧ (n ≤ q → cU S' n = cU S n)
  | 0 => by have _s := SymV.val; exact ⟨fun h => by omega, fun _ => rfl⟩
  | n + 1 => by
    obtain ⟨h1, h2⟩ := cU_set hq hs (n := n)
    refine ⟨fun h => ?_, fun h => ?_⟩
    · simp only [cU]
      by_cases he : q = n
      · subst he
        rw [hs q, hq, h2 (Nat.le_refl _)]; simp
      · rw [hs n, if_neg (Ne.symm he)]
        have := h1 (by omega)
        omega
    · have hn : S' n = S n := by rw [hs n, if_neg (by omega)]
      simp only [cU]
      rw [hn, h2 (by omega)]

theorem cU_pos {S : Nat → Bool} : ∀ {n : Nat}, cU S n ≠ 0 → ∃ q, q < n ∧ S q = false ∧ ∀ k, k < q → S k = true
  | 0, h => by simp [cU] at h
  | n + 1, h => by
    by_cases h0 : cU S n = 0
    · refine ⟨n, by omega, ?_, cU_zero h0⟩
      simp only [cU, h0] at h
      cases hs : S n
      · rfl
      · simp [hs] at h
    · obtain ⟨q, h1, h2, h3⟩ := cU_pos h0
      exact ⟨q, by omega, h2, h3⟩

theorem inv_end (c : Ctx P X call ops ms ord O F M C V H) (hI : DInv P ops.toList ord O F M V φ0 w0 a0 listed a w p φ) (hall : ∀ q, q < ord.length → sel ord listed q = true) :
    Sim (M 0).next φ0 φ w0 w ∧ FR φ (F ord.length) a ∧ MR φ (M ord.length).get w ∧ Bd φ (M ord.length).next := by
  obtain ⟨hwn, hmn⟩ := run_wf c.hP c.hc c.hR c.hw ord.length (Nat.le_refl _)
  have hno : ∀ q', p ≤ q' → q' < ord.length → ¬ isE ops.toList O F q' := fun q' h1 h2 => hI.above q' h1 (hall q' h2)
  have hbt := mem_between c.hP c.hc c.hR c.hw ord.length hI.ple (Nat.le_refl _) hno
  obtain ⟨⟨hnt, hnok⟩, htv⟩ := frame_TV c.hR c.hn ord.length (Nat.le_refl _)
  refine ⟨hI.sim, ⟨by rw [hI.tsize, hnt], hnok, fun t => ?_⟩, ⟨fun id l hl => ?_, fun id hd hn => ?_, fun id hd hn => ?_, hI.inj, hI.pin⟩, fun id hid => ?_⟩
  · rw [htv t, TV_agree (S' := sel ord listed) ord.length fun k hk _ => (hall k hk).symm]
    exact hI.tmps t
  · rcases hI.live id l hl with ⟨h1, b', h2, h3⟩ | ⟨q', h1, h2, h3, h4, b', h5, h6⟩
    · exact ⟨b', by rw [hbt id h1]; exact h2, h3⟩
    · have hq'n := sel_lt h2
      obtain ⟨i, hi⟩ := ord_at (ord := ord) hq'n
      obtain ⟨hwq', _⟩ := run_wf c.hP c.hc c.hR c.hw q' (by omega)
      obtain ⟨_, _, _, k3, _⟩ := alc_at c.hR hi hwq' h3
      refine ⟨b', ?_, h6⟩
      rw [mem_between c.hP c.hc c.hR c.hw (p := q' + 1) ord.length (by omega) (Nat.le_refl _) (fun x hx hx' => hno x (by omega) hx') id (by omega)]
      exact h5
  · obtain ⟨h1, h2, _⟩ := hI.dead id hd
    rw [hbt id h1]; exact h2 hn
  · obtain ⟨h1, _, h2⟩ := hI.dead id hd
    rw [hbt id h1]; exact h2 hn
  · have hpn := hmn p hI.ple
    cases he : φ id with
    | none => exact absurd he hid
    | some x => cases x with
      | none => have := (hI.dead id he).1; omega
      | some l =>
        rcases hI.live id l he with ⟨h1, _⟩ | ⟨q', h1, h2, h3, h4, _⟩
        · omega
        · have hq'n := sel_lt h2
          obtain ⟨i, hi⟩ := ord_at (ord := ord) hq'n
          obtain ⟨hwq', _⟩ := run_wf c.hP c.hc c.hR c.hw q' (by omega)
          obtain ⟨_, _, _, k3, _⟩ := alc_at c.hR hi hwq' h3
          have := hmn (q' + 1) (by omega)
          omega

theorem any_sim (c : Ctx P X call ops ms ord O F M C V H) {Q : Exit → Act → World → Prop}
    (hE : ∀ φ w a, Sim (M 0).next φ0 φ w0 w → FR φ (F ord.length) a → MR φ (M ord.length).get w → Bd φ (M ord.length).next → a.defers = a0.defers → Q .normal a w) :
    ∀ (fuel : Nat) (listed : Array Bool) (a : Act) (w : World) (p : Nat) (φ : Phi), DInv P ops.toList ord O F M V φ0 w0 a0 listed a w p φ → cU (sel ord listed) ord.length = fuel → wpAny P .any ops Q fuel listed a w := by
  intro fuel
  induction fuel with
  | zero =>
    intro listed a w p φ hI hcnt
    have hall := cU_zero hcnt
    refine ⟨?_, ?_⟩
    · apply List.eq_nil_iff_forall_not_mem.2
      intro j hj
      obtain ⟨q, hr⟩ := ready_pos (by rw [← c.hms]; exact c.hG) (by rw [← c.hms]; exact c.hR) hI hj
      have := hall q (List.getElem?_eq_some_iff.1 hr.at_).1
      rw [hr.un] at this; cases this
    · obtain ⟨h1, h2, h3, h4⟩ := inv_end c hI hall
      exact hE φ w a h1 h2 h3 h4 hI.defers
  | succ fuel ih =>
    intro listed a w p φ hI hcnt
    refine ⟨fun hnil => ?_, fun j hj => ?_⟩
    · exfalso
      obtain ⟨q, h1, h2, h3⟩ := cU_pos (n := ord.length) (S := sel ord listed) (by omega)
      obtain ⟨i, hi⟩ := ord_at (ord := ord) h1
      have hop := c.hR.op q i hi
      have hmem : i ∈ Region.ready .any ops listed := by
        rw [mem_ready]
        have hil : i < listed.size := by rw [hI.size]; exact c.hG.lt q i hi
        rw [sel_at hi] at h2
        refine ⟨?_, O q, by simpa using hop, fun e he hb => ?_⟩
        · simp [hil] at h2 ⊢; exact h2
        · rw [binds_eq] at hb
          have hm := mask_direct hop (e := e) (by simpa using he) hb
          rw [← c.hms] at hm
          obtain ⟨q', hq', he'⟩ := c.hG.ahead q i e.on hi hm
          have := h3 q' hq'
          rw [sel_at he'] at this; exact this
      rw [hnil] at hmem; cases hmem
    · obtain ⟨q, hr'⟩ := ready_pos (by rw [← c.hms]; exact c.hG) (by rw [← c.hms]; exact c.hR) hI hj
      have hr : Rdy ops.toList ms ord O listed p j q := by rw [c.hms]; exact hr'
      have hql : q < ord.length := (List.getElem?_eq_some_iff.1 hr.at_).1
      have hopj : ops[j]? = some (O q) := by have := hr.op; simpa using this
      have hcnt' : cU (sel ord (listed.setIfInBounds j true)) ord.length = fuel := by
        have := (cU_set hr.un (sel_set c.hG hI.size hr) (n := ord.length)).1 hql
        omega
      unfold wpOp
      cases hwt : lwanted ops.toList (O q) (F q) with
      | none =>
        cases c.hR.step q j hr.at_ with
        | skip h => rw [hwt] at h; cases h
        | eff h => rw [hwt] at h; cases h
        | alc h => rw [hwt] at h; cases h
        | quiet h => rw [hwt] at h; cases h
      | some wt =>
      have hwant := wanted_at c.hG c.hms c.hR c.hn hI hr hwt
      simp only [hopj, hwant]
      cases wt with
      | false =>
        simp only [Bool.false_eq_true, if_false]
        cases c.hR.step q j hr.at_ with
        | skip _ hv => exact ih _ _ _ p φ (inv_quiet c hI hr (fun h => by have h := h.1; rw [hwt] at h; cases h) (by rw [hv]; exact VR.undef)) hcnt'
        | eff h => rw [hwt] at h; cases h
        | alc h => rw [hwt] at h; cases h
        | quiet h => rw [hwt] at h; cases h
      | true =>
        simp only [if_true]
        left
        cases c.hR.step q j hr.at_ with
        | skip h => rw [hwt] at h; cases h
        | eff h1 h2 => exact inv_eff c hI hr ⟨h1, h2⟩ _ _ fun φ' w' v' hI' => ih _ _ _ (q + 1) φ' hI' hcnt'
        | alc h1 h2 h3 =>
          obtain ⟨v', obj, wz, φ', g1, g2⟩ := inv_alc c hI hr ⟨h1, h2, h3⟩
          unfold Oper.wp
          rw [g1]
          exact ih _ _ _ p φ' g2 hcnt'
        | quiet h1 h2 h3 h4 h5 =>
          obtain ⟨v', g1, g2⟩ := quiet_run c hI hr h4 h5
          unfold Oper.wp
          rw [g1]
          exact ih _ _ _ p φ (inv_quiet c hI hr (fun h => by have := h.2; rw [h2] at this; cases this) g2) hcnt'

theorem draw_any (hP : POK P X) (hc : CallSound P call) {ops : Array Oper} {f f' : LF} {m m' : LMem} (hreg : regOK ops.toList = true) (hnt : LFok f)
    (h : runDraw P X call ops.toList (masks ops.toList []) (regOrd ops.toList (masks ops.toList [])) f m m [] = some (f', m')) (hw : WF m) :
    (m.next ≤ m'.next ∧ WF m' ∧ LFok f') ∧ ∀ {Q : Exit → Act → World → Prop} φ w a, MR φ m.get w → Bd φ m.next → FR φ f a → Ends m m' f' φ a w (Q .normal) → wpAny P .any ops Q ops.size (Array.replicate ops.size false) a { w with drawn := w.drawn + 1 } := by
  have hG := regOK_spec hreg
  obtain ⟨O, F, M, C, V, H, h1, h2, h3, h4, h5, h6, hR⟩ := trace ops.toList _ _ f m m [] f' m' h
  have c : Ctx P X call ops (masks ops.toList []) (regOrd ops.toList (masks ops.toList [])) O F M C V H :=
    ⟨hP, hc, hG, rfl, hR, by rw [h1]; exact hnt, by rw [h2]; exact hw, by rw [h2, h3]⟩
  obtain ⟨hwn, hmn⟩ := run_wf c.hP c.hc c.hR c.hw _ (Nat.le_refl _)
  refine ⟨⟨?_, by rw [← h6]; exact hwn, by rw [← h5]; exact (frame_TV c.hR c.hn _ (Nat.le_refl _)).1.2⟩, fun {Q} φ w a hm hb hf hE => ?_⟩
  · have := hmn 0 (Nat.zero_le _)
    rw [h2, h6] at this; exact this
  · have hlen : (regOrd ops.toList (masks ops.toList [])).length = ops.size := by rw [hG.len]; simp
    have hsel0 : ∀ q, sel (regOrd ops.toList (masks ops.toList [])) (Array.replicate ops.size false) q = false := by
      intro q
      unfold sel
      split
      · rename_i i hi
        by_cases hlt : i < ops.size
        · simp [hlt]
        · simp [hlt]
      · rfl
    have hfalse : ∀ i, (Array.replicate ops.size false).getD i false = false := by
      intro i
      by_cases hlt : i < ops.size
      · simp [hlt]
      · simp [hlt]
    have hcnt : cU (sel (regOrd ops.toList (masks ops.toList [])) (Array.replicate ops.size false)) (regOrd ops.toList (masks ops.toList [])).length = ops.size := by
      rw [hlen]
      generalize ops.size = n at *
      have : ∀ k, cU (sel (regOrd ops.toList (masks ops.toList [])) (Array.replicate n false)) k = k := by
        intro k
        induction k with
        | zero => rfl
        | succ k ih => simp only [cU, ih, hsel0 k]; rfl
      exact this n
    refine any_sim (φ0 := φ) (w0 := { w with drawn := w.drawn + 1 }) (a0 := a) c (fun φ' w' a' hs hf' hm' hb' hd' => ?_) ops.size _ a _ 0 φ ?_ hcnt
    · rw [h5] at hf'
      rw [h6] at hm' hb'
      rw [h2] at hs
      exact hE φ' w' a' ((Sim.drew _ φ w).trans (Nat.le_refl _) hs) hf' hm' hb' hd'
    · have hm' : MR φ m.get { w with drawn := w.drawn + 1 } := hm.same_heap rfl
      refine ⟨by simp, (fun i o _ hi => by simp only [hfalse i] at hi; cases hi), Nat.zero_le _, .inl rfl, (fun q hq => by omega), (fun q _ hs => by rw [hsel0 q] at hs; cases hs), by rw [h1]; exact hf.size, fun t => ?_, rfl,
        fun id l hl => .inl ?_, fun id hd => ?_, hm.inj, Sim.refl _ _ _, hm'.pin⟩
      · rw [TV_tail (q := 0) _ (Nat.zero_le _) fun k _ _ _ => hsel0 k]
        show VR φ ((F 0).get t) _
        rw [h1]; exact hf.val t
      · obtain ⟨b, g1, g2⟩ := hm'.live id l hl
        rw [h2]
        exact ⟨hb id (by rw [hl]; simp), b, g1, g2⟩
      · rw [h2]
        exact ⟨hb id (by rw [hd]; simp), hm'.dead id hd, hm'.nils id hd⟩
theorem draw_sim (hP : POK P X) (hc : CallSound P call) {ops : Array Oper} {f f' : LF} {m m' : LMem} (hreg : regOK ops.toList = true) (hnt : LFok f)
    (h : runDraw P X call ops.toList (masks ops.toList []) (regOrd ops.toList (masks ops.toList [])) f m m [] = some (f', m')) (hw : WF m) :
    (m.next ≤ m'.next ∧ WF m' ∧ LFok f') ∧ ∀ {Q : Exit → Act → World → Prop} {id : Nat} φ w a, MR φ m.get w → Bd φ m.next → FR φ f a → Ends m m' f' φ a w (Q .normal) → (Code.region id ops true).wp P Q a w := by
  obtain ⟨h1, h2⟩ := draw_any hP hc hreg hnt h hw
  exact ⟨h1, fun {Q id} φ w a hm hb hf hE => wp_region_any hP.mixed (h2 φ w a hm hb hf hE)⟩
end
end Go.Eng
/- The engine is sound: code and calls. -/
namespace Go.Eng
variable [SymV]
section
variable {P : Program} {X : ExtT} {call : CallT}

def xit : LX → Exit
  | .norm => .normal
  | .exit id => .exit id
  | .ret => .ret

theorem Ends.step {m m1 m' : LMem} {f' : LF} {φ φ1 : Phi} {a a1 : Act} {w w1 : World} {Q : Act → World → Prop} (hle : m.next ≤ m1.next) (hs : Sim m.next φ φ1 w w1) (hd : a1.defers = a.defers) (hE : Ends m m' f' φ a w Q) : Ends m1 m' f' φ1 a1 w1 Q := by
  have _s := SymV.val
  have _s := SymV.val
  exact
  fun φ2 w2 a2 hs2 hf2 hm2 hb2 hd2 => hE φ2 w2 a2 (hs.trans hle hs2) hf2 hm2 hb2 (hd2.trans hd)

/-- the run of code, by fuel -/
def ExecOK (P : Program) (X : ExtT) (call : CallT) (n : Nat) : Prop :=
  ∀ (c : Code) (f f' : LF) (m m' : LMem) (x : LX), exec P X call n c f m = some (x, f', m') → LFok f → WF m → (m.next ≤ m'.next ∧ WF m' ∧ LFok f') ∧
    ∀ φ w a, MR φ m.get w → Bd φ m.next → FR φ f a → ∀ Q : Exit → Act → World → Prop, Ends m m' f' φ a w (Q (xit x)) → c.wp P Q a w

def LoopOK (P : Program) (X : ExtT) (call : CallT) (n : Nat) : Prop :=
  ∀ (c : Code) (f f' : LF) (m m' : LMem) (x : LX), exec P X call n (.loop c) f m = some (x, f', m') → LFok f → WF m → (m.next ≤ m'.next ∧ WF m' ∧ LFok f') ∧
    ∀ φ w a, MR φ m.get w → Bd φ m.next → FR φ f a → ∀ Q : Exit → Act → World → Prop, Ends m m' f' φ a w (Q (xit x)) → Code.rounds P c Q n a w

theorem runSeq_ok {ops : List Oper} : ∀ {r : List Oper} {f f' : LF} {m m' : LMem}, runSeq P X call ops r f m = some (f', m') → LFok f → LFok f'
  | [], f, f', m, m', h, hf => by simp only [runSeq, Option.some.injEq, Prod.mk.injEq] at h; rw [← h.1]; exact hf
  | o :: r, f, f', m, m', h, hf => by
    unfold runSeq at h
    cases hw : lwanted ops o f with
    | none => rw [hw] at h; cases h
    | some wt =>
    cases wt with
    | true =>
      simp only [hw, cond_true] at h
      split at h
      case h_2 => cases h
      split at h
      case h_2 => cases h
      rename_i hp
      exact runSeq_ok h (hf.put hp).1
    | false =>
      simp only [hw, cond_false] at h
      split at h
      case h_2 => cases h
      rename_i hp
      exact runSeq_ok h (hf.put hp).1

theorem exec_sim (hP : POK P X) (hc : CallSound P call) : ∀ n, ExecOK P X call n ∧ LoopOK P X call n := by
  intro n
  induction n with
  | zero => exact ⟨fun c f f' m m' x h => by simp [exec] at h, fun c f f' m m' x h => by simp [exec] at h⟩
  | succ n ih =>
    obtain ⟨ihE, ihL⟩ := ih
    have hL : LoopOK P X call (n + 1) := by
      intro c f f' m m' x h hnt hw
      simp only [exec] at h
      split at h
      · rename_i f1 m1 h1
        obtain ⟨g1, g2⟩ := ihE c f f1 m m1 .norm h1 hnt hw
        obtain ⟨q1, q2⟩ := ihL c f1 f' m1 m' x h g1.2.2 g1.2.1
        refine ⟨⟨Nat.le_trans g1.1 q1.1, q1.2⟩, fun φ w a hm hb hf Q hE => ?_⟩
        rw [rounds_succ]
        exact g2 φ w a hm hb hf _ fun φ1 w1 a1 hs1 hf1 hm1 hb1 hd1 => q2 φ1 w1 a1 hm1 hb1 hf1 Q (hE.step g1.1 hs1 hd1)
      · rename_i hno
        obtain ⟨g1, g2⟩ := ihE c f f' m m' x h hnt hw
        refine ⟨g1, fun φ w a hm hb hf Q hE => ?_⟩
        rw [rounds_succ]
        refine g2 φ w a hm hb hf _ fun φ1 w1 a1 hs1 hf1 hm1 hb1 hd1 => ?_
        have := hE φ1 w1 a1 hs1 hf1 hm1 hb1 hd1
        cases x with
        | norm => exact absurd h (hno f' m')
        | exit id => exact this
        | ret => exact this
    refine ⟨?_, hL⟩
    intro c f f' m m' x h hnt hw
    cases c with
    | skip =>
      simp only [exec, Option.some.injEq, Prod.mk.injEq] at h
      obtain ⟨rfl, rfl, rfl⟩ := h
      exact ⟨⟨Nat.le_refl _, hw, hnt⟩, fun φ w a hm hb hf Q hE => wp_skip (hE φ w a (Sim.refl _ φ w) hf hm hb rfl)⟩
    | region id ops draw =>
      simp only [exec] at h
      cases draw with
      | true =>
        simp only [cond_true] at h
        cases hreg : regOK ops.toList with
        | false => simp only [hreg, cond_false] at h; cases h
        | true =>
          simp only [hreg, cond_true, Option.map_eq_some_iff, Prod.mk.injEq] at h
          obtain ⟨⟨f1, m1⟩, hrun, rfl, rfl, rfl⟩ := h
          obtain ⟨g1, g2⟩ := draw_sim hP hc hreg hnt hrun hw
          exact ⟨g1, fun φ w a hm hb hf Q hE => g2 φ w a hm hb hf hE⟩
      | false =>
        simp only [cond_false] at h
        cases hok : ops.toList.all okOp with
        | false => simp only [hok, cond_false] at h; cases h
        | true =>
          simp only [hok, cond_true, Option.map_eq_some_iff, Prod.mk.injEq] at h
          obtain ⟨⟨f1, m1⟩, hrun, rfl, rfl, rfl⟩ := h
          have hs := fun Q => seq_sim (Q := Q) hP hc ops hok ops.toList 0 f f1 m m1 (by simp) hrun hw
          refine ⟨⟨(hs fun _ _ _ => True).1.1, (hs fun _ _ _ => True).1.2, runSeq_ok hrun hnt⟩, fun φ w a hm hb hf Q hE => wp_region ?_⟩
          have := (hs Q).2 φ w a hm hb hf hE
          rw [← List.range_eq_range'] at this
          simpa using this
    | seq c1 c2 =>
      simp only [exec] at h
      split at h
      · rename_i f1 m1 h1
        obtain ⟨g1, g2⟩ := ihE c1 f f1 m m1 .norm h1 hnt hw
        obtain ⟨q1, q2⟩ := ihE c2 f1 f' m1 m' x h g1.2.2 g1.2.1
        refine ⟨⟨Nat.le_trans g1.1 q1.1, q1.2⟩, fun φ w a hm hb hf Q hE => wp_seq ?_⟩
        exact g2 φ w a hm hb hf _ fun φ1 w1 a1 hs1 hf1 hm1 hb1 hd1 => q2 φ1 w1 a1 hm1 hb1 hf1 Q (hE.step g1.1 hs1 hd1)
      · rename_i hno
        obtain ⟨g1, g2⟩ := ihE c1 f f' m m' x h hnt hw
        refine ⟨g1, fun φ w a hm hb hf Q hE => wp_seq ?_⟩
        refine g2 φ w a hm hb hf _ fun φ1 w1 a1 hs1 hf1 hm1 hb1 hd1 => ?_
        have := hE φ1 w1 a1 hs1 hf1 hm1 hb1 hd1
        cases x with
        | norm => exact absurd h (hno f' m')
        | exit id => exact this
        | ret => exact this
    | cond o c1 c2 =>
      have key : ∀ (t : Bool) (b : Code), (if t then c1 else c2) = b → okOperand o = true ∨ (∃ v, o = .const v) → f.lev o = .bool t → exec P X call n b f m = some (x, f', m') → (m.next ≤ m'.next ∧ WF m' ∧ LFok f') ∧
          ∀ φ w a, MR φ m.get w → Bd φ m.next → FR φ f a → ∀ Q : Exit → Act → World → Prop, Ends m m' f' φ a w (Q (xit x)) → (Code.cond o c1 c2).wp P Q a w := by
        intro t b hb' ho hl hr
        obtain ⟨g1, g2⟩ := ihE b f f' m m' x hr hnt hw
        refine ⟨g1, fun φ w a hm hb hf Q hE => wp_cond (t := t) ?_ (by rw [hb']; exact g2 φ w a hm hb hf Q hE)⟩
        rcases ho with ho | ⟨v, rfl⟩
        · have := hf.eval ho
          rw [hl] at this
          generalize a.eval o = y at this
          cases this; rfl
        · exact hl
      have keyS : ∀ (k : FloatKind) (i j : Nat) (t : Bool) (b : Code), (if t then c1 else c2) = b → (bif okOperand o then tlk (.complex k i j) SymD.tab else none) = some t → f.lev o = .complex k i j → exec P X call n b f m = some (x, f', m') → (m.next ≤ m'.next ∧ WF m' ∧ LFok f') ∧
          ∀ φ w a, MR φ m.get w → Bd φ m.next → FR φ f a → ∀ Q : Exit → Act → World → Prop, Ends m m' f' φ a w (Q (xit x)) → (Code.cond o c1 c2).wp P Q a w := by
        intro k i j t b hb' ho hl hr
        obtain ⟨g1, g2⟩ := ihE b f f' m m' x hr hnt hw
        cases hok : okOperand o with
        | false => rw [hok] at ho; cases ho
        | true =>
        rw [hok] at ho
        have hd := (tlk_spec SymV.ok ho).2
        refine ⟨g1, fun φ w a hm hb hf Q hE => wp_cond (t := t) ?_ (by rw [hb']; exact g2 φ w a hm hb hf Q hE)⟩
        have := hf.eval hok
        rw [hl] at this
        generalize a.eval o = y at this
        cases this with
        | sym _ _ _ _ hv => rw [hv]; exact hd
      have hop : okOperand o = true ∨ (∃ v, o = .const v) ∨ ∃ g, o = .global g := by
        cases o with
        | tmp t => exact .inl rfl
        | const v => exact .inr (.inl ⟨v, rfl⟩)
        | global g => exact .inr (.inr ⟨g, rfl⟩)
        | func g => exact .inl rfl
      simp only [exec] at h
      split at h
      · cases h
      · rename_i hng
        have hop' : okOperand o = true ∨ (∃ v, o = .const v) := by
          rcases hop with h1 | h1 | ⟨g, h1⟩
          · exact .inl h1
          · exact .inr h1
          · exact absurd h1 (hng g)
        split at h
        · rename_i hl; exact key true c1 rfl hop' hl h
        · rename_i hl; exact key false c2 rfl hop' hl h
        · rename_i hl
          split at h
          · rename_i ht; exact keyS _ _ _ true c1 rfl ht hl h
          · rename_i ht; exact keyS _ _ _ false c2 rfl ht hl h
          · cases h
        · cases h
    | block id c =>
      simp only [exec] at h
      split at h
      · rename_i j f1 m1 h1
        obtain ⟨g1, g2⟩ := ihE c f f1 m m1 (.exit j) h1 hnt hw
        cases hj : Nat.beq j id with
        | true =>
          simp only [hj, cond_true, Option.some.injEq, Prod.mk.injEq] at h
          obtain ⟨rfl, rfl, rfl⟩ := h
          have := Nat.eq_of_beq_eq_true hj
          subst this
          refine ⟨g1, fun φ w a hm hb hf Q hE => wp_block (g2 φ w a hm hb hf _ fun φ1 w1 a1 hs1 hf1 hm1 hb1 hd1 => ?_)⟩
          simp only [xit, Exit.inBlock, if_true]
          exact hE φ1 w1 a1 hs1 hf1 hm1 hb1 hd1
        | false =>
          simp only [hj, cond_false, Option.some.injEq, Prod.mk.injEq] at h
          obtain ⟨rfl, rfl, rfl⟩ := h
          have hne : ¬ j = id := fun h0 => by rw [h0, Nat.beq_refl] at hj; cases hj
          refine ⟨g1, fun φ w a hm hb hf Q hE => wp_block (g2 φ w a hm hb hf _ fun φ1 w1 a1 hs1 hf1 hm1 hb1 hd1 => ?_)⟩
          simp only [xit, Exit.inBlock, if_neg hne]
          exact hE φ1 w1 a1 hs1 hf1 hm1 hb1 hd1
      · rename_i hno
        obtain ⟨g1, g2⟩ := ihE c f f' m m' x h hnt hw
        refine ⟨g1, fun φ w a hm hb hf Q hE => wp_block (g2 φ w a hm hb hf _ fun φ1 w1 a1 hs1 hf1 hm1 hb1 hd1 => ?_)⟩
        have := hE φ1 w1 a1 hs1 hf1 hm1 hb1 hd1
        cases x with
        | norm => exact this
        | exit j => exact absurd h (hno j f' m')
        | ret => exact this
    | loop c =>
      obtain ⟨g1, g2⟩ := hL c f f' m m' x h hnt hw
      exact ⟨g1, fun φ w a hm hb hf Q hE => wp_loop_rounds (n + 1) (g2 φ w a hm hb hf Q hE)⟩
    | exit id =>
      simp only [exec, Option.some.injEq, Prod.mk.injEq] at h
      obtain ⟨rfl, rfl, rfl⟩ := h
      exact ⟨⟨Nat.le_refl _, hw, hnt⟩, fun φ w a hm hb hf Q hE => wp_exit (hE φ w a (Sim.refl _ φ w) hf hm hb rfl)⟩
    | ret =>
      simp only [exec, Option.some.injEq, Prod.mk.injEq] at h
      obtain ⟨rfl, rfl, rfl⟩ := h
      exact ⟨⟨Nat.le_refl _, hw, hnt⟩, fun φ w a hm hb hf Q hE => wp_ret (hE φ w a (Sim.refl _ φ w) hf hm hb rfl)⟩
    | rangeFunc _ _ _ _ => simp [exec] at h
    | scope c =>
      simp only [exec] at h
      obtain ⟨g1, g2⟩ := ihE c f f' m m' x h hnt hw
      refine ⟨g1, fun φ w a hm hb hf Q hE => wp_scope_straight (g2 φ w a hm hb hf _ fun φ1 w1 a1 hs1 hf1 hm1 hb1 hd1 => ?_)⟩
      have := hE φ1 w1 a1 hs1 hf1 hm1 hb1 hd1
      cases x with
      | norm => exact this
      | exit j => exact this
      | ret => exact this
    | label _ =>
      simp only [exec, Option.some.injEq, Prod.mk.injEq] at h
      obtain ⟨rfl, rfl, rfl⟩ := h
      exact ⟨⟨Nat.le_refl _, hw, hnt⟩, fun φ w a hm hb hf Q hE => wp_label (hE φ w a (Sim.refl _ φ w) hf hm hb rfl)⟩
    | goto _ => simp [exec] at h
    | refuse _ => simp [exec] at h

/- results -/
theorem results_sim {f : LF} {m : LMem} {w : World} {a : Act} {φ : Phi} {G : ResultVar → Sem Value} (hG1 : ∀ t, G (.tmp t) = pure (a.tmps.getD t undef))
    (hG2 : ∀ x t, G (.cell x t) = do loadVar t (← asAddr (a.tmps.getD x undef))) (hm : MR φ m.get w) (hf : FR φ f a) : ∀ (rs : List ResultVar) (vs : List Value), lresults P f m rs = some vs →
    ∃ vs', (rs.mapM G).run P w = .ok vs' w ∧ VRL φ vs vs' := by
  intro rs
  induction rs with
  | nil => intro vs h; simp [lresults] at h; subst h; exact ⟨[], rfl, .nil⟩
  | cons r rs ih =>
    intro vs h
    cases r with
    | tmp t =>
      simp only [lresults, Option.map_eq_some_iff] at h
      obtain ⟨vs0, h0, rfl⟩ := h
      obtain ⟨vs', g1, g2⟩ := ih vs0 h0
      exact ⟨a.tmps.getD t undef :: vs', by simp only [List.mapM_cons, hG1, Sem.run_bind, Sem.run_pure, Result.andThen_ok, g1], .cons _ _ _ _ (hf.val t) g2⟩
    | cell x t =>
      simp only [lresults] at h
      split at h
      case h_2 => cases h
      rename_i b off hx
      split at h
      case h_2 => cases h
      rename_i c hc
      split at h
      case h_2 => cases h
      rename_i v hv
      simp only [Option.map_eq_some_iff] at h
      obtain ⟨vs0, h0, rfl⟩ := h
      obtain ⟨vs', g1, g2⟩ := ih vs0 h0
      have hval := hf.val x
      rw [hx] at hval
      obtain ⟨l, hl, hy, hbr⟩ := ptr_cells hm.part hval hc
      obtain ⟨v', k1, k2⟩ := load_sim (P := P) hbr hv
      refine ⟨v' :: vs', ?_, .cons _ _ _ _ k2 g2⟩
      have ha : (asAddr (a.tmps.getD x undef)).run P w = .ok ⟨l.b, l.sh + off, none⟩ w := by rw [hy]; rfl
      simp only [List.mapM_cons, hG2, Sem.run_bind, ha, Sem.run_pure, Result.andThen_ok, k1, g1]

theorem tuple_sim {φ : Phi} {vs vs' : List Value} (h : VRL φ vs vs') : VR φ (ltuple vs) (if h : (⟨vs'⟩ : Array Value).size = 1 then (⟨vs'⟩ : Array Value)[0] else .tuple ⟨vs'⟩) := by
  have _s := SymV.val
  cases h with
  | nil => exact .tuple _ _ .nil
  | cons x y xs ys h1 h2 =>
    cases h2 with
    | nil => simpa [ltuple] using h1
    | cons x2 y2 xs2 ys2 h3 h4 =>
      have : ¬ (⟨y :: y2 :: ys2⟩ : Array Value).size = 1 := by simp
      rw [dif_neg this]
      exact .tuple _ _ (.cons _ _ _ _ h1 (.cons _ _ _ _ h3 h4))

theorem putArgs_get : ∀ (args : List Value) (i : Nat) (t : FT Value) (k : Nat), i + args.length ≤ 512 → k < 512 → FT.get (putArgs args i t) k = if i ≤ k ∧ k < i + args.length then args[k - i]? else FT.get t k
  | [], i, t, k, _, _ => by have _s := SymV.val; have _s := SymV.val; simp [putArgs]; intro h1 h2; omega
  | v :: r, i, t, k, h, hk => by
    simp only [List.length_cons] at h
    rw [putArgs, putArgs_get r (i + 1) _ k (by omega) hk]
    simp only [List.length_cons]
    by_cases h1 : i + 1 ≤ k ∧ k < i + 1 + r.length
    · rw [if_pos h1, if_pos (by omega), show k - i = (k - (i + 1)) + 1 by omega]; simp
    · rw [if_neg h1, FT.get_set _ _ _ _ (by omega) hk]
      by_cases h2 : i = k
      · subst h2; rw [if_pos rfl, if_pos (by omega)]; simp
      · rw [if_neg h2, if_neg (by omega)]

theorem start_frame {φ : Phi} {args args' : List Value} {nt : Nat} (h : VRL φ args args') (h1 : args.length ≤ nt) (h2 : nt ≤ 512) :
    FR φ { tr := putArgs args 0 (FT.lf none), nt := nt } { tmps := (⟨args'⟩ : Array Value) ++ Array.replicate (nt - (⟨args'⟩ : Array Value).size) undef, defers := [] } := by
  have hl := h.length
  have hsz : ((⟨args'⟩ : Array Value)).size = args'.length := by simp
  refine ⟨by simp; omega, ⟨h2⟩, fun i => ?_⟩
  by_cases hi : i < nt
  · have hg : LF.get { tr := putArgs args 0 (FT.lf none), nt := nt } i = (if i < args.length then args[i]? else none).getD undef := by
      rw [LF.get_lt (by exact hi)]
      show (FT.get (putArgs args 0 (FT.lf none)) i).getD undef = _
      rw [putArgs_get args 0 (FT.lf none) i (by omega) (by omega), FT.get_lf]
      simp
    rw [hg]
    by_cases hia : i < args.length
    · rw [if_pos hia]
      obtain ⟨y, k1, k2⟩ := h.get (List.getElem?_eq_getElem hia)
      rw [List.getElem?_eq_getElem hia]
      have : ((⟨args'⟩ : Array Value) ++ Array.replicate (nt - (⟨args'⟩ : Array Value).size) undef).getD i undef = y := by
        have hia' : i < args'.length := by omega
        rw [List.getElem?_eq_getElem hia'] at k1
        simp only [Option.some.injEq] at k1
        simp [Array.getElem?_append_left, hia', k1]
      rw [this]; exact k2
    · rw [if_neg hia]
      have : ((⟨args'⟩ : Array Value) ++ Array.replicate (nt - (⟨args'⟩ : Array Value).size) undef).getD i undef = undef := by
        have hia' : args'.length ≤ i := by omega
        simp [Array.getElem?_append_right, hia', Array.getElem?_replicate]
        split <;> rfl
      rw [this]; exact VR.undef
  · have hg : LF.get { tr := putArgs args 0 (FT.lf none), nt := nt } i = undef := LF.get_ge (by show nt ≤ i; omega)
    rw [hg]
    have : ((⟨args'⟩ : Array Value) ++ Array.replicate (nt - (⟨args'⟩ : Array Value).size) undef).getD i undef = undef := by
      have : ((⟨args'⟩ : Array Value) ++ Array.replicate (nt - (⟨args'⟩ : Array Value).size) undef).size ≤ i := by simp; omega
      rw [Array.getD_eq_getD_getElem?, Array.getElem?_eq_none this]; rfl
    rw [this]; exact VR.undef

/-- what a primitive must give -/
def PrimOK (P : Program) (prim : FuncId → Option (List Value → LMem → Option (Value × LMem))) : Prop :=
  ∀ g p, prim g = some p → ∀ args m v m', p args m = some (v, m') → WF m → (m.next ≤ m'.next ∧ WF m') ∧
    ∀ φ w args', MR φ m.get w → Bd φ m.next → VRL φ args args' → Calls P g ⟨args'⟩ w (CallPost m m' v φ w)

theorem call_sound (hP : POK P X) {prim : FuncId → Option (List Value → LMem → Option (Value × LMem))} (hp : PrimOK P prim) (fuel : Nat) : ∀ n, CallSound P (callF P X prim fuel n) := by
  intro n
  induction n with
  | zero => intro g args m v m' h; simp [callF] at h
  | succ n ih =>
    intro g args m v m' h hw
    have body : callB P X fuel (callF P X prim fuel n) g args m = some (v, m') → (m.next ≤ m'.next ∧ WF m') ∧ ∀ φ w args', MR φ m.get w → Bd φ m.next → VRL φ args args' → Calls P g ⟨args'⟩ w (CallPost m m' v φ w) := by
      clear h
      intro h
      unfold callB at h
      split at h
      · cases h
      · rename_i fn hfn
        split at h
        · cases h
        · rename_i c hbody
          cases hq : (Nat.ble args.length fn.ntmps && Nat.ble fn.ntmps 512) with
          | false => simp only [hq, cond_false] at h; cases h
          | true =>
            simp only [hq, cond_true] at h
            rw [Bool.and_eq_true] at hq
            have hq1 := Nat.le_of_ble_eq_true hq.1
            have hq2 := Nat.le_of_ble_eq_true hq.2
            have hE := (exec_sim hP ih fuel).1
            have key : ∀ (x : LX) (f' : LF) (m1 : LMem), (x = .norm ∨ x = .ret) → exec P X (callF P X prim fuel n) fuel c { tr := putArgs args 0 (FT.lf none), nt := fn.ntmps } m = some (x, f', m1) →
                (lresults P f' m1 fn.results.toList).map (fun vs => (ltuple vs, m1)) = some (v, m') →
                (m.next ≤ m'.next ∧ WF m') ∧ ∀ φ w args', MR φ m.get w → Bd φ m.next → VRL φ args args' → Calls P g ⟨args'⟩ w (CallPost m m' v φ w) := by
              intro x f' m1 hx hrun hres
              simp only [Option.map_eq_some_iff, Prod.mk.injEq] at hres
              obtain ⟨vs, hvs, rfl, rfl⟩ := hres
              obtain ⟨g1, g2⟩ := hE c _ f' m m1 x hrun ⟨hq2⟩ hw
              refine ⟨⟨g1.1, g1.2.1⟩, fun φ w args' hm hb hargs => calls_of_wp hfn hbody ?_⟩
              refine g2 φ w _ hm hb (start_frame hargs hq1 hq2) _ fun φ1 w1 a1 hs1 hf1 hm1 hb1 hd1 => ?_
              obtain ⟨vs', k1, k2⟩ := results_sim (P := P) (G := fun
                | .tmp t => pure (a1.tmps.getD t undef)
                | .cell x t => do loadVar t (← asAddr (a1.tmps.getD x undef))) (fun _ => rfl) (fun _ _ => rfl) hm1 hf1 fn.results.toList vs hvs
              have hpost : a1.defers = [] ∧ ∃ v', (results fn a1.tmps).run P w1 = .ok v' w1 ∧ CallPost m m1 (ltuple vs) φ w (.returned v') w1 := by
                refine ⟨hd1, _, ?_, _, φ1, rfl, hs1, tuple_sim k2, hm1, hb1⟩
                unfold results
                rw [Sem.run_bind, Array.mapM_eq_mapM_toList, Sem.run_map]
                refine Eq.trans (congrArg (fun r => Result.andThen (Result.andThen r _) _) (Eq.trans ?_ k1)) rfl
                rfl
              rcases hx with rfl | rfl
              · exact hpost
              · exact hpost
            split at h
            · rename_i f' m1 hrun; exact key .norm f' m1 (.inl rfl) hrun h
            · rename_i f' m1 hrun; exact key .ret f' m1 (.inr rfl) hrun h
            · cases h
    simp only [callF] at h
    split at h
    · rename_i p hpg
      split at h
      · rename_i r hr
        cases h
        exact hp g p hpg args m v m' hr hw
      · exact body h
    · exact body h
end
end Go.Eng
/- The engine once more, in a form that the kernel runs faster; it is the same engine. -/
namespace Go.Eng
variable [SymV]

/-- an operation made ready: what it does to the values of its operands -/
inductive Kind where
  | q (h : (Nat → Option LB) → (Operand → Value) → Option Value)
  | a (h : (Operand → Value) → Nat → Option (Value × LB))
  | e (h : (Operand → Value) → LMem → Option (LN × LMem))

def lim : IntKind → Nat
  | .i8 => 128
  | .i16 => 32768
  | .i32 => 2147483648
  | .i64 => 9223372036854775808
  | .u8 => 256
  | .u16 => 65536
  | .u32 => 4294967296
  | .u64 => 18446744073709551616

def kindNo : IntKind → Nat
  | .i8 => 0
  | .i16 => 1
  | .i32 => 2
  | .i64 => 3
  | .u8 => 4
  | .u16 => 5
  | .u32 => 6
  | .u64 => 7

theorem kindNo_inj {j k : IntKind} (h : Nat.beq (kindNo j) (kindNo k) = true) : j = k := by
  have _s := SymV.val
  have := Nat.eq_of_beq_eq_true h
  cases j <;> cases k <;> first | rfl | (simp [kindNo] at this)

theorem wrap_lim {k : IntKind} {n : Nat} (h : n < lim k) : k.wrap (n : Int) = n := by
  have _s := SymV.val
  have e : ∀ (b : Nat) (c : Nat), (2 : Int) ^ b = (c : Int) → True := fun _ _ _ => trivial
  unfold IntKind.wrap
  cases k <;> simp only [lim] at h <;> simp only [IntKind.bits, IntKind.signed] <;> simp <;> omega

abbrev NBin := IntKind → Nat → Nat → Option Value

def nAdd : NBin := fun k x y => bif Nat.blt (Nat.add x y) (lim k) then some (.int k (.ofNat (Nat.add x y))) else none
def nSub : NBin := fun k x y => bif Nat.ble y x && Nat.blt x (lim k) then some (.int k (.ofNat (Nat.sub x y))) else none
def nMul : NBin := fun k x y => bif Nat.blt (Nat.mul x y) (lim k) then some (.int k (.ofNat (Nat.mul x y))) else none
def nQuo : NBin := fun k x y => bif Nat.blt 0 y && Nat.blt x (lim k) then some (.int k (.ofNat (Nat.div x y))) else none
def nRem : NBin := fun k x y => bif Nat.blt 0 y then some (.int k (.ofNat (Nat.mod x y))) else none
def nEql : NBin := fun _ x y => some (.bool (Nat.beq x y))
def nNeq : NBin := fun _ x y => some (.bool (!Nat.beq x y))
def nLss : NBin := fun _ x y => some (.bool (Nat.blt x y))
def nLeq : NBin := fun _ x y => some (.bool (Nat.ble x y))
def nGtr : NBin := fun _ x y => some (.bool (Nat.blt y x))
def nGeq : NBin := fun _ x y => some (.bool (Nat.ble y x))
def nNone : NBin := fun _ _ _ => none

/-- the quick way of an operator on numbers that are not negative -/
def nbin : BinOp → NBin
  | .add => nAdd
  | .sub => nSub
  | .mul => nMul
  | .quo => nQuo
  | .rem => nRem
  | .eql => nEql
  | .neq => nNeq
  | .lss => nLss
  | .leq => nLeq
  | .gtr => nGtr
  | .geq => nGeq
  | _ => nNone

def withBin (op : BinOp) (K : NBin → Kind) : Kind :=
  match op with
  | .add => K nAdd
  | .sub => K nSub
  | .mul => K nMul
  | .quo => K nQuo
  | .rem => K nRem
  | .eql => K nEql
  | .neq => K nNeq
  | .lss => K nLss
  | .leq => K nLeq
  | .gtr => K nGtr
  | .geq => K nGeq
  | _ => K nNone

theorem withBin_eq (op : BinOp) (K : NBin → Kind) : withBin op K = K (nbin op) := by
  have _s := SymV.val
  cases op <;> rfl

theorem nbin_spec {op : BinOp} {t : TypeId} {k : IntKind} {x y : Nat} {v : Value} (h : nbin op k x y = some v) : pureSem (binOp op t (.int k (.ofNat x)) (.int k (.ofNat y))) = some v := by
  have hb : ∀ {c : Bool} {u : Value}, (bif c then some u else none) = some v → c = true ∧ u = v := by
    intro c u hc
    cases c
    · cases hc
    · exact ⟨rfl, by simpa using hc⟩
  have hw : ∀ n : Nat, n < lim k → k.wrap (Int.ofNat n) = Int.ofNat n := fun n hn => wrap_lim hn
  cases op <;> simp only [nbin, nAdd, nSub, nMul, nQuo, nRem, nEql, nNeq, nLss, nLeq, nGtr, nGeq, nNone] at h <;> simp only [binOp, ne_eq, not_true, if_false]
  case add =>
    obtain ⟨h1, rfl⟩ := hb h
    simp only [Op.intArith]
    have : (Int.ofNat x + Int.ofNat y) = Int.ofNat (Nat.add x y) := rfl
    rw [this, hw _ (blt_lt h1)]; rfl
  case sub =>
    obtain ⟨h1, rfl⟩ := hb h
    rw [Bool.and_eq_true] at h1
    have h2 := Nat.le_of_ble_eq_true h1.1
    have h3 := blt_lt h1.2
    simp only [Op.intArith]
    have : (Int.ofNat x - Int.ofNat y) = Int.ofNat (Nat.sub x y) := by
      show ((x : Int) - (y : Int)) = ((x - y : Nat) : Int); omega
    rw [this, hw _ (by show x - y < lim k; omega)]; rfl
  case mul =>
    obtain ⟨h1, rfl⟩ := hb h
    simp only [Op.intArith]
    have : (Int.ofNat x * Int.ofNat y) = Int.ofNat (Nat.mul x y) := rfl
    rw [this, hw _ (blt_lt h1)]; rfl
  case quo =>
    obtain ⟨h1, rfl⟩ := hb h
    rw [Bool.and_eq_true] at h1
    have h2 := blt_lt h1.1
    have h3 := blt_lt h1.2
    simp only [Op.intDiv]
    rw [if_neg (by show ¬ ((y : Int) = 0); omega)]
    have : (Int.ofNat x).tdiv (Int.ofNat y) = Int.ofNat (Nat.div x y) := rfl
    have hle : Nat.div x y ≤ x := Nat.div_le_self x y
    rw [this, hw _ (by omega)]; rfl
  case rem =>
    obtain ⟨h1, rfl⟩ := hb h
    have h2 := blt_lt h1
    simp only [Op.intDiv]
    rw [if_neg (by show ¬ ((y : Int) = 0); omega)]
    rfl
  case eql =>
    cases h
    have : (Int.ofNat x == Int.ofNat y) = Nat.beq x y := by
      cases hq : Nat.beq x y with
      | true => rw [Nat.eq_of_beq_eq_true hq]; simp
      | false => simp; intro h'; have h2 : x = y := by omega
                 rw [h2, Nat.beq_refl] at hq; cases hq
    simp only [Op.intCmp, this]; rfl
  case neq =>
    cases h
    have : (Int.ofNat x != Int.ofNat y) = !Nat.beq x y := by
      cases hq : Nat.beq x y with
      | true => rw [Nat.eq_of_beq_eq_true hq]; simp
      | false => simp; intro h'; have h2 : x = y := by omega
                 rw [h2, Nat.beq_refl] at hq; cases hq
    simp only [Op.intCmp, this]; rfl
  case lss =>
    cases h
    have : decide (Int.ofNat x < Int.ofNat y) = Nat.blt x y := by
      cases hq : Nat.blt x y with
      | true => have := blt_lt hq; simp; omega
      | false => simp; rcases Nat.lt_or_ge x y with h' | h'
                 · rw [blt_true h'] at hq; cases hq
                 · omega
    simp only [Op.intCmp, this]; rfl
  case leq =>
    cases h
    have : decide (Int.ofNat x ≤ Int.ofNat y) = Nat.ble x y := by
      cases hq : Nat.ble x y with
      | true => have := Nat.le_of_ble_eq_true hq; simp; omega
      | false => simp; rcases Nat.lt_or_ge y x with h' | h'
                 · omega
                 · rw [Nat.ble_eq_true_of_le h'] at hq; cases hq
    simp only [Op.intCmp, this]; rfl
  case gtr =>
    cases h
    have : decide (Int.ofNat x > Int.ofNat y) = Nat.blt y x := by
      cases hq : Nat.blt y x with
      | true => have := blt_lt hq; simp; omega
      | false => simp; rcases Nat.lt_or_ge y x with h' | h'
                 · rw [blt_true h'] at hq; cases hq
                 · omega
    simp only [Op.intCmp, this]; rfl
  case geq =>
    cases h
    have : decide (Int.ofNat x ≥ Int.ofNat y) = Nat.ble y x := by
      cases hq : Nat.ble y x with
      | true => have := Nat.le_of_ble_eq_true hq; simp; omega
      | false => simp; rcases Nat.lt_or_ge x y with h' | h'
                 · omega
                 · rw [Nat.ble_eq_true_of_le h'] at hq; cases hq
    simp only [Op.intCmp, this]; rfl
  all_goals cases h

def fbin [SymD] (N : NBin) (P : Program) (op : BinOp) (t : TypeId) (c : Bool) (x y : Value) : Option Value :=
  match x with
  | .int k a => match a with
    | .ofNat m => match y with
      | .int k' b => match b with
        | .ofNat n => match N k m n with
          | some v => bif Nat.beq (kindNo k) (kindNo k') then some v else lbin P op t c x y
          | none => lbin P op t c x y
        | _ => lbin P op t c x y
      | _ => lbin P op t c x y
    | _ => lbin P op t c x y
  | _ => lbin P op t c x y

theorem fbin_eq (P : Program) (op : BinOp) (t : TypeId) (c : Bool) (x y : Value) : fbin (nbin op) P op t c x y = lbin P op t c x y := by
  unfold fbin
  split
  · split
    · split
      · split
        · split
          · rename_i v hv
            cases hk : Nat.beq (kindNo _) (kindNo _) with
            | false => rfl
            | true =>
              have := kindNo_inj hk
              subst this
              simp only [cond_true, lbin]
              exact (nbin_spec hv).symm
          · rfl
        · rfl
      · rfl
    · rfl
  · rfl

def qpick [SymD] (c a b : Value) : Option Value :=
  match c with
  | .bool true => some a
  | .bool false => some b
  | .complex k n m => (tlk (.complex k n m) SymD.tab).map fun t => bif t then a else b
  | _ => none

def qnil [SymD] (x : Value) : Option Value :=
  match x with
  | .pointer (some a) => some (.pointer (some a))
  | .iface t v => some (.iface t v)
  | .func (.func f) xs ys => some (.func (.func f) xs ys)
  | .complex k n m => slk .nn [.complex k n m] SymD.tab
  | .float k n => match SymD.ptr n with
    | some _ => some (.float k n)
    | none => none
  | _ => none

def qun [SymD] (op : UnOp) (x : Value) : Option Value :=
  match x with
  | .int k n => pureSem (Op.unary op (.int k n))
  | .bool b => pureSem (Op.unary op (.bool b))
  | .complex a n m => slk (.un op) [.complex a n m] SymD.tab
  | _ => none

/-- what lies in a row, read by a way of reading -/
def lloadG [SymD] (lo : List Value → Option Value) (k s : Nat) (i : Value) (o : Nat) : Option Value :=
  match llk (.iad k) [.float .f64 s, i] SymD.ltab with
  | some (.float a p) => match (bif Nat.beq o 0 then some (.float a p) else llk (.fad o) [.float a p] SymD.ltab) with
    | some (.float _ q) => match SymD.ptr q with
      | some cs => lo cs
      | none => none
    | _ => none
  | _ => none

def qload1 [SymD] (g : Nat → Option LB) (x : Value) : Option Value :=
  match x with
  | .pointer (some ⟨b, off, none⟩) => match g b with
    | some (.cells c) => c[off]?
    | some (.ro c) => c[off]?
    | some (.lst _ k s) => lloadG (fun c => c[0]?) k s (.int .i64 (.ofNat (off / k))) (off % k)
    | _ => none
  | .pointer (some ⟨b, off, some m⟩) => match g b with
    | some (.lst _ k s) => lloadG (fun c => c[0]?) k s (.complex .f64 m 0) off
    | _ => none
  | .float _ k => match SymD.ptr k with
    | some c => c[0]?
    | none => none
  | _ => none

def rowOf (n : Nat) (c : List Value) (off : Nat) : Option Value :=
  let vs := (c.drop off).take n
  bif Nat.beq vs.length n then some (.agg ⟨vs⟩) else none

def qloadA [SymD] (n : Nat) (g : Nat → Option LB) (x : Value) : Option Value :=
  match x with
  | .pointer (some ⟨b, off, none⟩) => match g b with
    | some (.cells c) => rowOf n c off
    | some (.ro c) => rowOf n c off
    | some (.lst _ k s) => lloadG (fun c => rowOf n c 0) k s (.int .i64 (.ofNat (off / k))) (off % k)
    | _ => none
  | .pointer (some ⟨b, off, some m⟩) => match g b with
    | some (.lst _ k s) => lloadG (fun c => rowOf n c 0) k s (.complex .f64 m 0) off
    | _ => none
  | .float _ k => match SymD.ptr k with
    | some c => rowOf n c 0
    | none => none
  | _ => none

def qoff [SymD] (d : Nat) (x : Value) : Option Value :=
  match x with
  | .pointer (some ⟨b, off, none⟩) => some (.pointer (some ⟨b, Nat.add off d, none⟩))
  | .complex a n m => slk (.fad d) [.complex a n m] SymD.tab
  | .pointer (some ⟨b, off, some sp⟩) => some (.pointer (some ⟨b, Nat.add off d, some sp⟩))
  | .float a n => bif Nat.beq d 0 then (match SymD.ptr n with
    | some _ => some (.float a n)
    | none => none) else llk (.fad d) [.float a n] SymD.ltab
  | _ => none

def qconvI [SymD] (k : IntKind) (x : Value) : Option Value :=
  match x with
  | .int _ a => match a with
    | .ofNat m => bif Nat.blt m (lim k) then some (.int k (.ofNat m)) else some (.int k (k.wrap a))
    | _ => some (.int k (k.wrap a))
  | .complex a n m => slk (.conv k) [.complex a n m] SymD.tab
  | _ => none

def qext (i : Nat) (x : Value) : Option Value :=
  match x with
  | .tuple vs => vs.toList[i]?
  | _ => none

/-- the offset of a field that takes room -/
def foff (P : Program) (s : TypeId) (f : Nat) : Option Nat :=
  match P.underlying s with
  | some (.struct fs) => match fs.toList[f]? with
    | some fd => match P.info? fd.type with
      | some i => bif Nat.beq i.size 0 then none else some fd.offset
      | none => none
    | none => none
  | _ => none

theorem foff_eq (P : Program) (s : TypeId) (x : Value) (f : Nat) : lfieldAddr P s x f = (match foff P s f with | some d => qoff d x | none => none) := by
  have _s := SymV.val
  unfold lfieldAddr foff
  cases hu : P.underlying s with
  | none => rfl
  | some d =>
    cases d <;> try rfl
    rename_i fs
    have fin : ∀ (F : Nat → Option Value), (match fs.toList[f]? with
        | some fd => match P.info? fd.type with
          | some i => bif Nat.beq i.size 0 then none else F fd.offset
          | none => none
        | none => none) = (match (match fs.toList[f]? with
        | some fd => match P.info? fd.type with
          | some i => bif Nat.beq i.size 0 then none else some fd.offset
          | none => none
        | none => none) with
        | some d => F d
        | none => none) := by
      intro F
      cases fs.toList[f]? with
      | none => rfl
      | some fd =>
        simp only
        cases P.info? fd.type with
        | none => rfl
        | some i =>
          simp only
          cases Nat.beq i.size 0 <;> rfl
    have nof : ∀ (o : Option Nat), (none : Option Value) = (match o with
        | some _ => none
        | none => none) := fun o => by cases o <;> rfl
    cases x with
    | pointer a =>
      cases a with
      | none => exact nof _
      | some a =>
        obtain ⟨b, off, sp⟩ := a
        cases sp with
        | none => exact fin fun d => some (.pointer (some ⟨b, off + d, none⟩))
        | some sp => exact fin fun d => some (.pointer (some ⟨b, off + d, some sp⟩))
    | complex a n m => exact fin fun d => slk (.fad d) [.complex a n m] SymD.tab
    | float a n => exact fin fun d => bif Nat.beq d 0 then (match SymD.ptr n with
      | some _ => some (.float a n)
      | none => none) else llk (.fad d) [.float a n] SymD.ltab
    | _ => exact nof _

def lshape (P : Program) (t : TypeId) : Option (Bool × Nat) :=
  match P.underlying t, P.info? t with
  | some d, some i => some (isAggD d, i.size)
  | _, _ => none

def bshape (P : Program) (t : TypeId) : Option (List Value × (Nat → Option (Nat × Nat))) :=
  match P.info? t, P.underlying t with
  | some it, some (.array _ e) =>
    match it.zero, P.info? e with
    | some z, some ie => bif Nat.beq (ub z) 0 then some (z.cells.toList, fun i => some (i * ie.size, ie.size)) else none
    | _, _ => none
  | some it, some (.struct fs) =>
    match it.zero, lplaces P fs.toList with
    | some z, some places => bif Nat.beq (ub z) 0 then some (z.cells.toList, fun i => places[i]?) else none
    | _, _ => none
  | _, _ => none

theorem bshape_eq (P : Program) (t : TypeId) (parts : List (Nat × Value)) : lbuilt P t parts = (match bshape P t with | some (z, pl) => lfill pl z parts | none => none) := by
  have _s := SymV.val
  unfold lbuilt bshape
  cases P.info? t with
  | none => rfl
  | some it =>
    cases P.underlying t with
    | none => rfl
    | some d =>
      cases d <;> try rfl
      · rename_i el
        simp only
        cases it.zero with
        | none => rfl
        | some z =>
          generalize P.info? el = q
          cases q with
          | none => rfl
          | some ie =>
            simp only
            cases Nat.beq (ub z) 0 <;> rfl
      · rename_i fs
        simp only
        cases it.zero with
        | none => rfl
        | some z =>
          generalize lplaces P fs.toList = q
          cases q with
          | none => rfl
          | some ie =>
            simp only
            cases Nat.beq (ub z) 0 <;> rfl

/-- the operation made ready -/
noncomputable def kind [SymD] (P : Program) (X : ExtT) (o : Oper) : Kind :=
  match o.op with
  | .move x => .q fun _ ρ => some (ρ x)
  | .assign x => .q fun _ ρ => some (ρ x)
  | .pick c a b => .q fun _ ρ => qpick (ρ c) (ρ a) (ρ b)
  | .build t parts => match bshape P t with
    | some (z, pl) => .q fun _ ρ => (lfill pl z (parts.toList.map fun p => (p.1, ρ p.2))).map fun c => .agg ⟨c⟩
    | none => .q fun _ _ => none
  | .load t a => match lshape P t with
    | some (true, n) => .q fun g ρ => qloadA n g (ρ a)
    | some (false, _) => .q fun g ρ => qload1 g (ρ a)
    | none => .q fun _ _ => none
  | .nilCheck x => .q fun _ ρ => qnil (ρ x)
  | .binOp op t x y _ => withBin op fun N => .q fun _ ρ => fbin N P op t (isConst x || isConst y) (ρ x) (ρ y)
  | .unOp op _ x => .q fun _ ρ => qun op (ρ x)
  | .convert src dst x => bif Nat.beq src dst then .e fun ρ m => eop P X ρ ⟨o.dst, .convert src dst x, o.type, o.pos, o.after, o.guard⟩ m else match P.underlying src, P.underlying dst with
    | some _, some (.int k) => .q fun _ ρ => qconvI k (ρ x)
    | some .string, some (.slice _) => .a fun ρ n => aop P ρ ⟨o.dst, .convert src dst x, o.type, o.pos, o.after, o.guard⟩ n
    | _, _ => .q fun g ρ => lconv P g src dst (ρ x)
  | .makeInterface t x => .q fun g ρ => qop P g ρ ⟨o.dst, .makeInterface t x, o.type, o.pos, o.after, o.guard⟩
  | .makeFunc fn first captured => .q fun _ ρ => some (.func fn ⟨first.toList.map ρ⟩ ⟨captured.toList.map ρ⟩)
  | .fieldAddr s x f => match foff P s f with
    | some d => .q fun _ ρ => qoff d (ρ x)
    | none => .q fun _ _ => none
  | .field s x f => .q fun _ ρ => lfield P s (ρ x) f
  | .indexAddr t x i => .q fun g ρ => lindexAddr P g t (ρ x) (ρ i)
  | .index t x i => .q fun _ ρ => lindex P t (ρ x) (ρ i)
  | .lookup t x i ok => .q fun g ρ => llookup P g t (ρ x) (ρ i) ok
  | .extract x i => .q fun _ ρ => qext i (ρ x)
  | .slice t x lo hi mx => .q fun _ ρ => lslice P t (ρ x) (lo.map ρ) (hi.map ρ) (mx.map ρ)
  | .alloc e => .a fun ρ n => aop P ρ ⟨o.dst, .alloc e, o.type, o.pos, o.after, o.guard⟩ n
  | .box _ x => .a fun ρ n => some (.pointer (some ⟨n, 0, none⟩), .cells (ρ x).cells.toList)
  | op => bif isEff op then .e fun ρ m => eop P X ρ ⟨o.dst, op, o.type, o.pos, o.after, o.guard⟩ m
    else bif isAlcP P op then .a fun ρ n => aop P ρ ⟨o.dst, op, o.type, o.pos, o.after, o.guard⟩ n
    else .q fun g ρ => qop P g ρ ⟨o.dst, op, o.type, o.pos, o.after, o.guard⟩

theorem kind_spec (P : Program) (X : ExtT) (o : Oper) : kind P X o = (bif isEff o.op then .e fun ρ m => eop P X ρ o m else bif isAlcP P o.op then .a fun ρ n => aop P ρ o n else .q fun g ρ => qop P g ρ o) := by
  obtain ⟨dst, op, type, pos, after, guard⟩ := o
  cases op <;> try rfl
  case build t parts =>
    have : ∀ (g : Nat → Option LB) (ρ : Operand → Value), qop P g ρ ⟨dst, .build t parts, type, pos, after, guard⟩ = (match bshape P t with | some (z, pl) => (lfill pl z (parts.toList.map fun p => (p.1, ρ p.2))).map fun c => .agg ⟨c⟩ | none => none) := by
      intro g ρ
      simp only [qop, bshape_eq]
      cases bshape P t with
      | none => rfl
      | some p => rfl
    show (match bshape P t with | some (z, pl) => _ | none => _) = Kind.q _
    simp only [this]
    cases bshape P t with
    | none => rfl
    | some p => rfl
  case load t a =>
    have : ∀ (g : Nat → Option LB) (ρ : Operand → Value), qop P g ρ ⟨dst, .load t a, type, pos, after, guard⟩ = (match lshape P t with | some (true, n) => qloadA n g (ρ a) | some (false, _) => qload1 g (ρ a) | none => none) := by
      intro g ρ
      simp only [qop, lload, lshape, lloadL]
      cases P.underlying t with
      | none => simp only; (repeat' split) <;> rfl
      | some d =>
        cases P.info? t with
        | none => simp only; (repeat' split) <;> rfl
        | some i =>
          simp only
          cases isAggD d with
          | true => rfl
          | false => rfl
    show (match lshape P t with | some (true, n) => _ | some (false, _) => _ | none => _) = Kind.q _
    simp only [this]
    cases lshape P t with
    | none => rfl
    | some p => obtain ⟨b, n⟩ := p; cases b <;> rfl
  case binOp bop t x y ty =>
    have h1 : kind P X ⟨dst, .binOp bop t x y ty, type, pos, after, guard⟩ = withBin bop fun N => .q fun _ ρ => fbin N P bop t (isConst x || isConst y) (ρ x) (ρ y) := rfl
    rw [h1, withBin_eq]
    simp only [fbin_eq]
    rfl
  case convert src dst' x =>
    have hk : kind P X ⟨dst, .convert src dst' x, type, pos, after, guard⟩ = (bif Nat.beq src dst' then .e fun ρ m => eop P X ρ ⟨dst, .convert src dst' x, type, pos, after, guard⟩ m else match P.underlying src, P.underlying dst' with
      | some _, some (.int k) => .q fun _ ρ => qconvI k (ρ x)
      | some .string, some (.slice _) => .a fun ρ n => aop P ρ ⟨dst, .convert src dst' x, type, pos, after, guard⟩ n
      | _, _ => .q fun g ρ => lconv P g src dst' (ρ x)) := rfl
    cases hsd : Nat.beq src dst' with
    | true =>
      rw [hk]
      simp only [isEff, hsd, cond_true]
    | false =>
    have hr : ∀ k d, P.underlying src = some d → P.underlying dst' = some (.int k) → ∀ (g : Nat → Option LB) (ρ : Operand → Value), qop P g ρ ⟨dst, .convert src dst' x, type, pos, after, guard⟩ = qconvI k (ρ x) := by
      intro k d h1 h2 g ρ
      simp only [qop]
      unfold lconv qconvI
      simp only [h1, h2]
      cases ρ x <;> simp
      rename_i kd n
      cases n with
      | ofNat m =>
        simp only
        cases hb : Nat.blt m (lim k) with
        | true => have hwr : k.wrap (Int.ofNat m) = Int.ofNat m := wrap_lim (blt_lt hb); simp only [cond_true, hwr]; rfl
        | false => rfl
      | negSucc m => rfl
    rw [hk]
    simp only [isEff, hsd, cond_false]
    split
    · rename_i d k h1 h2
      have ha : isAlcP P (.convert src dst' x) = false := by simp only [isAlcP, isAlc, isConvB, h1, h2, Bool.false_or]
      simp only [ha, cond_false, hr k d h1 h2]
    · rename_i e h1 h2
      have ha : isAlcP P (.convert src dst' x) = true := by simp only [isAlcP, isAlc, isConvB, h1, h2, Bool.false_or]
      simp only [ha, cond_true]
    · rename_i n1 n2
      have ha : isAlcP P (.convert src dst' x) = false := by
        simp only [isAlcP, isAlc, isConvB, Bool.false_or]
      simp only [ha, cond_false]
      rfl
  case fieldAddr s x f =>
    have : ∀ (g : Nat → Option LB) (ρ : Operand → Value), qop P g ρ ⟨dst, .fieldAddr s x f, type, pos, after, guard⟩ = (match foff P s f with | some d => qoff d (ρ x) | none => none) := by
      intro g ρ
      simp only [qop, foff_eq]
    show (match foff P s f with | some d => _ | none => _) = Kind.q _
    simp only [this]
    cases foff P s f <;> rfl

/- the fast run -/
noncomputable def putK (f : LF) (dst : Option Nat) (v : Value) (m : LMem) (k : LF → LMem → Option (LF × LMem)) : Option (LF × LMem) :=
  match f.put dst v with
  | some f' => k f' m
  | none => none

noncomputable def doK (call : CallT) (r : Option (LN × LMem)) : Option (Value × LMem) :=
  match r with
  | some (.val v, m') => some (v, m')
  | some (.enter g args, m') => call g args m'
  | none => none

noncomputable def stepF [SymD] (P : Program) (X : ExtT) (call : CallT) (ops : List Oper) (o : Oper) (k : LF → LMem → Option (LF × LMem)) (f : LF) (m : LMem) : Option (LF × LMem) :=
  match lwanted ops o f with
  | none => none
  | some wt => bif wt then
    match kind P X o with
    | .q h => match h m.get f.lev with
      | some v => putK f o.dst v m k
      | none => none
    | .a h => match h f.lev m.next with
      | some (v, b) => match m.alloc b with
        | some m' => putK f o.dst v m' k
        | none => none
      | none => none
    | .e h => match doK call (h f.lev m) with
      | some (v, m') => putK f o.dst v m' k
      | none => none
    else putK f o.dst undef m k

noncomputable def runSeqF [SymD] (P : Program) (X : ExtT) (call : CallT) (ops : List Oper) (l : List Oper) : LF → LMem → Option (LF × LMem) :=
  List.rec (motive := fun _ => LF → LMem → Option (LF × LMem)) (fun f m => some (f, m)) (fun o _ ih f m => stepF P X call ops o ih f m) l

theorem runSeqF_eq (P : Program) (X : ExtT) (call : CallT) (ops : List Oper) : ∀ (l : List Oper) (f : LF) (m : LMem), runSeqF P X call ops l f m = runSeq P X call ops l f m
  | [], f, m => rfl
  | o :: r, f, m => by
    show stepF P X call ops o (runSeqF P X call ops r) f m = _
    have ih := runSeqF_eq P X call ops r
    have hk : runSeqF P X call ops r = runSeq P X call ops r := funext fun f => funext fun m => ih f m
    rw [hk]
    unfold stepF runSeq
    cases hw : lwanted ops o f with
    | none => rfl
    | some wt =>
    cases wt with
    | false => rfl
    | true =>
      simp only [cond_true, kind_spec, doOp]
      cases he : isEff o.op with
      | true =>
        simp only [cond_true, doEff, doK]
        cases eop P X f.lev o m with
        | none => rfl
        | some p =>
          obtain ⟨r', m'⟩ := p
          cases r' <;> rfl
      | false =>
        simp only [cond_false]
        cases ha : isAlcP P o.op with
        | true =>
          simp only [cond_true, doAlc]
          cases aop P f.lev o m.next with
          | none => rfl
          | some p =>
            obtain ⟨v, b⟩ := p
            simp only
            cases m.alloc b <;> rfl
        | false =>
          simp only [cond_false]
          cases qop P m.get f.lev o <;> rfl

noncomputable def seqX (r : Option (LX × LF × LMem)) (k : LF → LMem → Option (LX × LF × LMem)) : Option (LX × LF × LMem) :=
  match r with
  | some (.norm, f', m') => k f' m'
  | r => r

noncomputable def regF [SymD] (P : Program) (X : ExtT) (call : CallT) (ops : Array Oper) (draw : Bool) (f : LF) (m : LMem) : Option (LX × LF × LMem) :=
  bif draw then
    bif regOK ops.toList then
      (runDraw P X call ops.toList (masks ops.toList []) (regOrd ops.toList (masks ops.toList [])) f m m []).map fun r => (.norm, r.1, r.2)
    else none
  else bif ops.toList.all okOp then (runSeqF P X call ops.toList ops.toList f m).map fun r => (.norm, r.1, r.2) else none

noncomputable def condF [SymD] (x : Operand) (f : LF) (a b : Option (LX × LF × LMem)) : Option (LX × LF × LMem) :=
  match x with
  | .global _ => none
  | x => match f.lev x with
    | .bool true => a
    | .bool false => b
    | .complex k i j => match (bif okOperand x then tlk (.complex k i j) SymD.tab else none) with
      | some true => a
      | some false => b
      | none => none
    | _ => none

noncomputable def blockF (id : Nat) (r : Option (LX × LF × LMem)) : Option (LX × LF × LMem) :=
  match r with
  | some (.exit j, f', m') => bif Nat.beq j id then some (.norm, f', m') else some (.exit j, f', m')
  | r => r

noncomputable def stepC [SymD] (P : Program) (X : ExtT) (call : CallT) (ih : Code → LF → LMem → Option (LX × LF × LMem)) (c : Code) (f : LF) (m : LMem) : Option (LX × LF × LMem) :=
  match c with
  | .skip => some (.norm, f, m)
  | .region _ ops draw => regF P X call ops draw f m
  | .seq a b => seqX (ih a f m) (ih b)
  | .cond x a b => condF x f (ih a f m) (ih b f m)
  | .block id a => blockF id (ih a f m)
  | .loop a => seqX (ih a f m) (ih (.loop a))
  | .exit id => some (.exit id, f, m)
  | .scope a => ih a f m
  | .label _ => some (.norm, f, m)
  | .ret => some (.ret, f, m)
  | _ => none

noncomputable def execF [SymD] (P : Program) (X : ExtT) (call : CallT) (n : Nat) : Code → LF → LMem → Option (LX × LF × LMem) :=
  Nat.rec (motive := fun _ => Code → LF → LMem → Option (LX × LF × LMem)) (fun _ _ _ => none) (fun _ ih c f m => stepC P X call ih c f m) n

theorem execF_eq (P : Program) (X : ExtT) (call : CallT) : ∀ (n : Nat) (c : Code) (f : LF) (m : LMem), execF P X call n c f m = exec P X call n c f m
  | 0, c, f, m => rfl
  | n + 1, c, f, m => by
    show stepC P X call (execF P X call n) c f m = _
    have hk : execF P X call n = exec P X call n := funext fun c => funext fun f => funext fun m => execF_eq P X call n c f m
    rw [hk]
    cases c <;> try rfl
    case region id ops draw =>
      simp only [stepC, regF, exec]
      have : runSeqF P X call ops.toList ops.toList f m = runSeq P X call ops.toList ops.toList f m := runSeqF_eq P X call _ _ f m
      rw [this]

noncomputable def stepB [SymD] (P : Program) (X : ExtT) (fuel : Nat) (ih : CallT) (g : FuncId) (args : List Value) (m : LMem) : Option (Value × LMem) :=
  match P.funcs[g]? with
  | none => none
  | some fn => match fn.body with
    | none => none
    | some c =>
      bif Nat.ble args.length fn.ntmps && Nat.ble fn.ntmps 512 then
        match execF P X ih fuel c { tr := putArgs args 0 (FT.lf none), nt := fn.ntmps } m with
        | some (.norm, f', m') => (lresults P f' m' fn.results.toList).map fun vs => (ltuple vs, m')
        | some (.ret, f', m') => (lresults P f' m' fn.results.toList).map fun vs => (ltuple vs, m')
        | _ => none
      else none

noncomputable def stepCall [SymD] (P : Program) (X : ExtT) (prim : FuncId → Option (List Value → LMem → Option (Value × LMem))) (fuel : Nat) (ih : CallT) (g : FuncId) (args : List Value) (m : LMem) : Option (Value × LMem) :=
  match prim g with
  | some p => match p args m with
    | some r => some r
    | none => stepB P X fuel ih g args m
  | none => stepB P X fuel ih g args m

noncomputable def callFF [SymD] (P : Program) (X : ExtT) (prim : FuncId → Option (List Value → LMem → Option (Value × LMem))) (fuel : Nat) (n : Nat) : CallT :=
  Nat.rec (motive := fun _ => CallT) (fun _ _ _ => none) (fun _ ih g args m => stepCall P X prim fuel ih g args m) n

theorem callFF_eq (P : Program) (X : ExtT) (prim : FuncId → Option (List Value → LMem → Option (Value × LMem))) (fuel : Nat) : ∀ n, callFF P X prim fuel n = callF P X prim fuel n
  | 0 => rfl
  | n + 1 => by
    funext g args m
    show stepCall P X prim fuel (callFF P X prim fuel n) g args m = _
    rw [callFF_eq P X prim fuel n]
    simp only [stepCall, stepB, callF, callB, execF_eq]
    rfl
end Go.Eng
/- From a closed run to the call: what the engine's answer says of the program. -/
namespace Go.Eng
open Go.RowKit
variable [SymV]

def m0 : LMem := ⟨TM.lf none, 0⟩

theorem m0_get (id : Nat) : m0.get id = none := by
  have _s := SymV.val
  exact LMem.get_none (Nat.zero_le _)

theorem m0_wf : WF m0 := ⟨Nat.zero_le _, fun id b h => by rw [m0_get] at h; cases h⟩

/-- a call without arguments that answers true and leaves alone what was there -/
def Trues (P : Program) (f : FuncId) : Prop :=
  ∀ w, Calls P f #[] w fun e w' => e = .returned (.bool true) ∧ Below w.heap.size w w'

noncomputable def isTrue (r : Option (Value × LMem)) : Bool :=
  match r with
  | some (v, _) => match v with
    | .bool b => b
    | _ => false
  | none => false

theorem isTrue_some {r : Option (Value × LMem)} (h : isTrue r = true) : ∃ m, r = some (.bool true, m) := by
  have _s := SymV.val
  unfold isTrue at h
  split at h
  · split at h
    · subst h; exact ⟨_, rfl⟩
    · cases h
  · cases h

/-- nothing there -/
def phi0 : Phi := ⟨fun _ => none, fun _ => none, fun _ => false⟩

theorem trues_of {P : Program} {X : ExtT} (hP : POK P X) {prim : FuncId → Option (List Value → LMem → Option (Value × LMem))} (hp : PrimOK P prim) {fuel n : Nat} {f : FuncId}
    (h : isTrue (callFF P X prim fuel n f [] m0) = true) : Trues P f := by
  intro w
  obtain ⟨m, hm⟩ := isTrue_some h
  rw [callFF_eq] at hm
  have hs := (call_sound hP hp fuel n f [] m0 _ _ hm m0_wf).2 phi0 w []
    ⟨fun id l h => (by cases h), fun id h => (by cases h), fun id h => (by cases h), fun id jd l l' h => (by cases h), Pin.none fun _ => rfl⟩ (fun id h => absurd rfl h) .nil
  refine hs.mono fun e w' ⟨v', φ', he, hsim, hv, _, _⟩ => ?_
  cases hv
  exact ⟨he, hsim.fr.os, hsim.fr.tape, hsim.fr.output, hsim.fr.size, fun k hk => hsim.fr.same k hk fun id l h => by cases h⟩

/-- the primitive of such a call -/
def primTrue : List Value → LMem → Option (Value × LMem) := fun args m =>
  match args with
  | [] => some (.bool true, m)
  | _ => none

theorem primTrue_ok {P : Program} {g : FuncId} (hg : Trues P g) : ∀ args m v m', primTrue args m = some (v, m') → WF m → (m.next ≤ m'.next ∧ WF m') ∧
    ∀ φ w args', MR φ m.get w → Bd φ m.next → VRL φ args args' → Calls P g ⟨args'⟩ w (CallPost m m' v φ w) := by
  have _s := SymV.val
  have _s := SymV.val
  intro args m v m' h hw
  cases args with
  | cons a r => cases h
  | nil =>
    cases h
    refine ⟨⟨Nat.le_refl _, hw⟩, fun φ w args' hm hb ha => ?_⟩
    cases ha
    refine (hg w).mono fun e w' ⟨he, bel⟩ => ?_
    refine ⟨.bool true, φ, he, ⟨Ext.refl φ, fun id l h => .inl ⟨id, l, h, rfl⟩, fun _ _ h => h, fun _ _ h => .inl h, ⟨bel.os, bel.tape, bel.output, bel.size, fun k hk _ => bel.block k hk⟩⟩, .bool true, ⟨fun id l h => ?_, hm.dead, hm.nils, hm.inj, hm.pin.at fun b hb _ => bel.block b hb⟩, hb⟩
    obtain ⟨b, h1, h2⟩ := hm.live id l h
    exact ⟨b, h1, h2.mono (Ext.refl φ) (bel.block _ h2.lt)⟩

theorem noPrim (P : Program) : PrimOK P (fun _ => none) := by
  have _s := SymV.val
  exact fun _ _ h => by cases h

/-- one primitive -/
def prim1 (g : FuncId) (p : List Value → LMem → Option (Value × LMem)) : FuncId → Option (List Value → LMem → Option (Value × LMem)) :=
  fun f => bif Nat.beq f g then some p else none

theorem prim1_ok {P : Program} {g : FuncId} (hg : Trues P g) : PrimOK P (prim1 g primTrue) := by
  intro f p h
  unfold prim1 at h
  cases hb : Nat.beq f g with
  | false => rw [hb] at h; cases h
  | true =>
    rw [hb] at h
    cases h
    have := Nat.eq_of_beq_eq_true hb
    subst this
    exact primTrue_ok hg

/- the two numbers of math/bits -/
theorem three_run {P : Program} (name : String) (k1 k2 k3 : IntKind) (x y c : Int) (w : World) (hc : c.toNat ≤ 1) :
    Sem.run P (Extern.MathBitsCarry.three name ⟨[.int k1 x, .int k2 y, .int k3 c]⟩) w = .ok (x.toNat, y.toNat, c.toNat) w := by
  have _s := SymV.val
  have h3 : Extern.MathBitsCarry.three name ⟨[.int k1 x, .int k2 y, .int k3 c]⟩ = (do
    let c' := (← asInt (.int k3 c)).toNat
    if c' > 1 then unsupported (.noEntry ("extern/math/bits." ++ name ++ ": a carry that is neither 0 nor 1"))
    pure ((← asInt (.int k1 x)).toNat, (← asInt (.int k2 y)).toNat, c')) := rfl
  rw [h3]
  have ha : ∀ (k : IntKind) (z : Int), Sem.run P (asInt (.int k z)) w = .ok z w := fun _ _ => rfl
  simp only [ha, Sem.run_bind, Result.andThen]
  rw [if_neg (by omega)]
  simp only [ha, Sem.run_bind, Sem.run_pure, Result.andThen]

theorem add_run {P : Program} {f : FuncId} {fn : Func} (hf : P.funcs[f]? = some fn) (hname : (fn.name == "runtime.NumGoroutine") = false)
    (hb : fn.body.isNone = true) (hn : Extern.findNext fn = none) (he : Extern.find fn = some (fun args => do
      let (x, y, c) ← Extern.MathBitsCarry.three "Add64" args
      pure (Extern.MathBitsCarry.pair ((x + y + c) % Extern.MathBitsCarry.m64) ((x + y + c) / Extern.MathBitsCarry.m64)))) :
    ∀ args v w, ladd args = some v → (callFunc f ⟨args⟩).run P w = .ok (.value v) w := by
  intro args v w h
  rw [run_callFunc_extern hf hname hb hn he]
  unfold ladd at h
  split at h
  · rename_i k1 x k2 y k3 c
    cases hc : Nat.ble c.toNat 1 with
    | false => simp [hc] at h
    | true =>
      simp only [hc, cond_true, Option.some.injEq] at h
      subst h
      have hc1 := Nat.le_of_ble_eq_true hc
      have : c.toNat = 0 ∨ c.toNat = 1 := by omega
      have key : ∀ k : Nat, k ≤ 1 → c.toNat = k → Sem.run P (do
        let (x, y, c) ← Extern.MathBitsCarry.three "Add64" ⟨[.int k1 x, .int k2 y, .int k3 c]⟩
        pure (Extern.MathBitsCarry.pair ((x + y + c) % Extern.MathBitsCarry.m64) ((x + y + c) / Extern.MathBitsCarry.m64))) w =
          .ok (Extern.MathBitsCarry.pair ((x.toNat + y.toNat + k) % Extern.MathBitsCarry.m64) ((x.toNat + y.toNat + k) / Extern.MathBitsCarry.m64)) w := by
        intro k hk hck
        rw [Sem.run_bind, three_run _ _ _ _ _ _ _ _ (by omega), hck]
        rfl
      rw [key _ hc1 rfl]
      rfl
  · cases h

theorem sub_run {P : Program} {f : FuncId} {fn : Func} (hf : P.funcs[f]? = some fn) (hname : (fn.name == "runtime.NumGoroutine") = false)
    (hb : fn.body.isNone = true) (hn : Extern.findNext fn = none) (he : Extern.find fn = some (fun args => do
      let (x, y, b) ← Extern.MathBitsCarry.three "Sub64" args
      pure (Extern.MathBitsCarry.pair ((x + Extern.MathBitsCarry.m64 - y - b) % Extern.MathBitsCarry.m64) (if x < y + b then 1 else 0)))) :
    ∀ args v w, lsub args = some v → (callFunc f ⟨args⟩).run P w = .ok (.value v) w := by
  intro args v w h
  rw [run_callFunc_extern hf hname hb hn he]
  unfold lsub at h
  split at h
  · rename_i k1 x k2 y k3 c
    cases hc : Nat.ble c.toNat 1 with
    | false => simp [hc] at h
    | true =>
      simp only [hc, cond_true, Option.some.injEq] at h
      subst h
      have hc1 := Nat.le_of_ble_eq_true hc
      have key : ∀ k : Nat, k ≤ 1 → c.toNat = k → Sem.run P (do
        let (x, y, b) ← Extern.MathBitsCarry.three "Sub64" ⟨[.int k1 x, .int k2 y, .int k3 c]⟩
        pure (Extern.MathBitsCarry.pair ((x + Extern.MathBitsCarry.m64 - y - b) % Extern.MathBitsCarry.m64) (if x < y + b then 1 else 0))) w =
          .ok (Extern.MathBitsCarry.pair ((x.toNat + Extern.MathBitsCarry.m64 - y.toNat - k) % Extern.MathBitsCarry.m64) (if x.toNat < y.toNat + k then 1 else 0)) w := by
        intro k hk hck
        rw [Sem.run_bind, three_run _ _ _ _ _ _ _ _ (by omega), hck]
        rfl
      rw [key _ hc1 rfl]
      rfl
  · cases h

/-- no function of this name, seen by going through them -/
noncomputable def noName (l : List Func) : Bool := List.rec (motive := fun _ => Bool) true (fun f _ ih => bif f.name == "runtime.NumGoroutine" then false else ih) l

theorem noName_all : ∀ {l : List Func}, noName l = true → ∀ f ∈ l, (f.name == "runtime.NumGoroutine") = false
  | [], _, f, h => by have _s := SymV.val; cases h
  | x :: r, hn, f, h => by
    have hn' : (bif x.name == "runtime.NumGoroutine" then false else noName r) = true := hn
    cases hx : (x.name == "runtime.NumGoroutine") with
    | true => rw [hx] at hn'; cases hn'
    | false =>
      rw [hx] at hn'
      rcases List.mem_cons.1 h with rfl | h
      · exact hx
      · exact noName_all hn' f h

theorem clone_run {P : Program} {f : FuncId} {fn : Func} (hf : P.funcs[f]? = some fn) (hname : (fn.name == "runtime.NumGoroutine") = false)
    (hb : fn.body.isNone = true) (hn : Extern.findNext fn = none) (he : Extern.find fn = some Extern.MapsClone.clone) :
    ∀ t r w es ck, w.heap[r]? = some (.map es ck) → (callFunc f ⟨[.iface t (.map (some r))]⟩).run P w = .ok (.value (.iface t (.map (some w.heap.size)))) (w.alloc (.map es ck)) := by
  have _s := SymV.val
  intro t r w es ck h
  rw [run_callFunc_extern hf hname hb hn he]
  have hc : Extern.MapsClone.clone ⟨[.iface t (.map (some r))]⟩ = (do
    let .map entries clock ← getObj r | stuck "maps.clone: a map expected"
    pure (.iface t (.map (some (← newObj (.map entries clock)))))) := rfl
  rw [hc]
  have h1 : (getObj r).run P w = .ok (.map es ck) w := MapKept.run_getObj_map h
  have h2 : (newObj (.map es ck)).run P w = .ok w.heap.size (w.alloc (.map es ck)) := rfl
  simp only [Sem.run_bind, h1, h2, Result.andThen_ok, Sem.run_pure]

/-- nothing that is not known -/
instance noSymV : SymV := SymV.plain [] (fun _ => .int .i64 0) (fun _ => rfl) fun _ h => by cases h
end Go.Eng
/- Arguments that no run looks into: structs of integers, bools and slices, as the engine is handed them. -/
namespace Go.Eng
open Go.RowKit
variable [SymV]

inductive Sh where
  | int (k : IntKind)
  | bool
  | slice

def shOf (P : Program) (t : TypeId) : Option Sh :=
  match P.underlying t with
  | some (.int k) => some (.int k)
  | some .bool => some .bool
  | some (.slice _) => some .slice
  | _ => none

def shAll (P : Program) : List TypeId → Option (List Sh)
  | [] => some []
  | t :: r => match shOf P t with
    | none => none
    | some s => match shAll P r with
      | none => none
      | some l => some (s :: l)

def shs (P : Program) (t : TypeId) : Option (List Sh) :=
  match P.cellTypes P.depth t with
  | some ts => shAll P ts
  | none => none

/-- a cell of that shape -/
def Fits1 : Sh → Value → Prop
  | .int k, v => ∃ n, v = .int k n ∧ k.has n
  | .bool, v => ∃ b, v = .bool b
  | .slice, v => v = .slice none 0 0 ∨ ∃ a len cap, v = .slice (some a) len cap ∧ len ≤ cap

inductive FitsL : List Sh → List Value → Prop where
  | nil : FitsL [] []
  | cons (s : Sh) (v : Value) (l : List Sh) (vs : List Value) : Fits1 s v → FitsL l vs → FitsL (s :: l) (v :: vs)

theorem fits1_of {P : Program} {w : World} {r : Reach} {base : Nat} {t : TypeId} {s : Sh} {v : Value} (hs : shOf P t = some s) (h : Cell.okWide P w r base t v) : Fits1 s v := by
  have _s := SymV.val
  unfold shOf at hs
  split at hs <;> cases hs
  · rename_i k hu
    simp only [Cell.okWide, hu] at h
    cases v <;> simp_all [Cell.ok, Fits1]
  · rename_i hu
    simp only [Cell.okWide, hu] at h
    cases v <;> simp_all [Cell.ok, Fits1]
  · rename_i e hu
    simp only [Cell.okWide, hu] at h
    cases v <;> try (simp_all [Cell.ok]; done)
    rename_i a len cap
    cases a with
    | none =>
      left
      unfold Cell.ok at h
      rw [hu] at h
      split at h <;> simp_all
    | some a =>
      right
      unfold Cell.ok at h
      rw [hu] at h
      simp only at h
      exact ⟨a, len, cap, rfl, h.1⟩

theorem fitsL_of {P : Program} {w : World} {r : Reach} {base : Nat} : ∀ (ts : List TypeId) (l : List Sh) (vs : List Value), shAll P ts = some l → vs.length = ts.length →
    (∀ (i : Nat) (v : Value), vs[i]? = some v → ∃ u, ts[i]? = some u ∧ Cell.okWide P w r base u v) → FitsL l vs
  | [], l, vs, hl, hn, _ => by
    cases hl
    cases vs with
    | nil => exact .nil
    | cons x r => simp at hn
  | t :: ts, l, vs, hl, hn, h => by
    cases vs with
    | nil => simp at hn
    | cons v vs =>
      simp only [shAll] at hl
      split at hl
      · cases hl
      · rename_i s hs
        split at hl
        · cases hl
        · rename_i l' hl'
          cases hl
          obtain ⟨u, hu, hv⟩ := h 0 v rfl
          cases hu
          refine .cons _ _ _ _ (fits1_of hs hv) (fitsL_of (w := w) (r := r) (base := base) ts l' vs hl' (by simpa using hn) fun i x hx => ?_)
          exact h (i + 1) x (by simpa using hx)

theorem fits_struct {P : Program} {w : World} {r : Reach} {base : Nat} {t : TypeId} {l : List Sh} {v : Value} (hu : ∃ fs, P.underlying t = some (.struct fs)) (hl : shs P t = some l) (hn : P.cellsOf t = l.length)
    (h : Value.okWide P w r base t v) : ∃ cs, v = .agg cs ∧ FitsL l cs.toList := by
  obtain ⟨fs, hu⟩ := hu
  simp only [Value.okWide, hu] at h
  obtain ⟨cs, rfl, hsz, ts, hts, ⟨n, hm⟩, hc⟩ := h
  refine ⟨cs, rfl, ?_⟩
  unfold shs at hl
  rw [hts] at hl
  have hlen : ∀ (ts : List TypeId) (l : List Sh), shAll P ts = some l → l.length = ts.length := by
    intro ts
    induction ts with
    | nil => intro l h; cases h; rfl
    | cons t r ih =>
      intro l h
      simp only [shAll] at h
      split at h
      · cases h
      · split at h
        · cases h
        · rename_i l' hl'
          cases h
          simp [ih l' hl']
  have hll := hlen ts l hl
  refine fitsL_of (w := w) (r := r) (base := base) ts l cs.toList hl (by rw [Array.length_toList, hsz, hn, hll]) fun i x hx => ?_
  have hx' : cs[i]? = some x := by simpa using hx
  obtain ⟨u, hu', hv⟩ := hc i x hx'
  have hi : i < cs.size := (Array.getElem?_eq_some_iff.1 hx').1
  rw [Nat.mod_eq_of_lt (by omega)] at hu'
  exact ⟨u, hu', hv⟩

/-- the logical cells: integers and bools by number, slices dead or nil -/
def lmk : List Sh → (Nat → Int) → (Nat → Bool) → List (Option (Nat × Nat)) → List Value
  | [], _, _, _ => []
  | .int k :: r, n, b, sl => .int k (n 0) :: lmk r (fun i => n (i + 1)) b sl
  | .bool :: r, n, b, sl => .bool (b 0) :: lmk r n (fun i => b (i + 1)) sl
  | .slice :: r, n, b, sl => match sl with
    | [] => []
    | none :: sl => .slice none 0 0 :: lmk r n b sl
    | some (len, cap) :: sl => .slice (some ⟨0, 0, none⟩) len cap :: lmk r n b sl

def slices : List Sh → Nat
  | [] => 0
  | .slice :: r => slices r + 1
  | _ :: r => slices r

theorem fits_mk {φ : Phi} (hφ : φ 0 = some none) {l : List Sh} {vs : List Value} (h : FitsL l vs) : ∃ n b sl, sl.length = slices l ∧ (∀ x ∈ sl, ∀ y, x = some y → y.1 ≤ y.2) ∧ VRL φ (lmk l n b sl) vs := by
  have _s := SymV.val
  have _s := SymV.val
  induction h with
  | nil => exact ⟨fun _ => 0, fun _ => false, [], rfl, by simp, .nil⟩
  | cons s v l vs h1 _ ih =>
    obtain ⟨n, b, sl, i1, i2, i3⟩ := ih
    cases s with
    | int k =>
      obtain ⟨x, rfl, _⟩ := h1
      exact ⟨fun i => Nat.casesOn i x n, b, sl, i1, i2, .cons _ _ _ _ (.int k x) i3⟩
    | bool =>
      obtain ⟨x, rfl⟩ := h1
      exact ⟨n, fun i => Nat.casesOn i x b, sl, i1, i2, .cons _ _ _ _ (.bool x) i3⟩
    | slice =>
      rcases h1 with rfl | ⟨a, len, cap, rfl, hle⟩
      · exact ⟨n, b, none :: sl, by simp [slices, i1], by
          intro x hx y hy
          rcases List.mem_cons.1 hx with rfl | hx
          · cases hy
          · exact i2 x hx y hy, .cons _ _ _ _ (.snil 0 0) i3⟩
      · exact ⟨n, b, some (len, cap) :: sl, by simp [slices, i1], by
          intro x hx y hy
          rcases List.mem_cons.1 hx with rfl | hx
          · cases hy; exact hle
          · exact i2 x hx y hy, .cons _ _ _ _ (.sdead 0 0 none len cap cap a hφ hle (Nat.le_refl _) fun _ => rfl) i3⟩

/-- a memory with one dead block -/
def m1 : LMem := ⟨TM.lf (some .dead), 1⟩
def phi1 : Phi := ⟨fun id => match id with
  | 0 => some none
  | _ => none, fun _ => none, fun _ => false⟩

theorem m1_get (id : Nat) (b : LB) (h : m1.get id = some b) : b = .dead := by
  have _s := SymV.val
  have hlt := LMem.get_lt h
  rw [LMem.get_tr hlt] at h
  have : TM.get m1.tr id = some .dead := TM.get_lf _ _
  rw [this] at h
  cases h; rfl

theorem m1_wf : WF m1 := ⟨by show 1 ≤ 16384; omega, fun id b h => by rw [m1_get id b h]; exact Nat.zero_le _⟩

theorem phi1_live (id : Nat) (l : Loc) (h : phi1 id = some (some l)) : False := by
  have _s := SymV.val
  cases id with
  | zero => cases h
  | succ n => cases h

/-- a call that answers true and leaves alone what was there -/
theorem true_call {P : Program} {X : ExtT} (hP : POK P X) {prim : FuncId → Option (List Value → LMem → Option (Value × LMem))} (hp : PrimOK P prim) {fuel n : Nat} {f : FuncId} {args args' : List Value}
    (h : isTrue (callFF P X prim fuel n f args m1) = true) (ha : VRL phi1 args args') (w : World) :
    Calls P f ⟨args'⟩ w fun e w' => e = .returned (.bool true) ∧ Below w.heap.size w w' := by
  obtain ⟨m, hm⟩ := isTrue_some h
  rw [callFF_eq] at hm
  have hd : ∀ id, phi1 id = some none → m1.get id = some .dead := by
    intro id h
    cases id with
    | zero => rfl
    | succ n => cases h
  have hb : Bd phi1 m1.next := by
    intro id h
    cases id with
    | zero => exact Nat.zero_lt_one
    | succ n => exact absurd rfl h
  have hs := (call_sound hP hp fuel n f args m1 _ _ hm m1_wf).2 phi1 w args'
    ⟨fun id l h => (phi1_live id l h).elim, fun id h _ => hd id h, fun id h h' => (by cases h'), fun id jd l l' h => (phi1_live id l h).elim, Pin.none fun _ => rfl⟩ hb ha
  refine hs.mono fun e w' ⟨v', φ', he, hsim, hv, _, _⟩ => ?_
  cases hv
  exact ⟨he, hsim.fr.os, hsim.fr.tape, hsim.fr.output, hsim.fr.size, fun k hk => hsim.fr.same k hk fun id l h => (phi1_live id l h).elim⟩
end Go.Eng
/- What runs between cut points need: memories told as lists, frames of which some temporaries are known. -/
namespace Go.Eng
variable [SymV]

def iv (n : Nat) : Value := .int .i64 (.ofNat n)
def nv (n : Nat) : Value := .int .i64 (.negSucc n)

/-- what 'CallSound' says of one call -/
def SC (P : Program) (g : FuncId) (args : List Value) (m : LMem) (v : Value) (m' : LMem) : Prop :=
  (m.next ≤ m'.next ∧ WF m') ∧ ∀ φ w args', MR φ m.get w → Bd φ m.next → VRL φ args args' → Calls P g ⟨args'⟩ w (CallPost m m' v φ w)

def lk : List (Nat × LB) → Nat → Option LB
  | [], _ => none
  | (i, b) :: r, j => if i = j then some b else lk r j

noncomputable def fill (t : TM LB) : List (Nat × LB) → TM LB
  | [] => t
  | (i, b) :: r => TM.set (fill t r) i b

theorem fill_get {t : TM LB} {j : Nat} (hj : j < 65536) : ∀ {l : List (Nat × LB)}, (∀ p ∈ l, p.1 < 65536) → TM.get (fill t l) j = (match lk l j with | some b => some b | none => TM.get t j)
  | [], _ => by have _s := SymV.val; have _s := SymV.val; exact rfl
  | (i, b) :: r, h => by
    have hi : i < 65536 := h (i, b) (by simp)
    have ih := fill_get (t := t) hj (l := r) fun p hp => h p (by simp [hp])
    simp only [fill, lk]
    rw [TM.get_set]
    by_cases he : i = j
    · subst he; simp
    · rw [if_neg (by omega), if_neg he, ih]

noncomputable def mem (n : Nat) (l : List (Nat × LB)) : LMem := ⟨fill (TM.lf (some .dead)) l, n⟩

theorem lk_mem : ∀ {l : List (Nat × LB)} {j : Nat} {b : LB}, lk l j = some b → (j, b) ∈ l
  | [], _, _, h => by have _s := SymV.val; simp [lk] at h
  | (i, b') :: r, j, b, h => by
    simp only [lk] at h
    by_cases he : i = j
    · rw [if_pos he] at h; cases h; subst he; simp
    · rw [if_neg he] at h; have := lk_mem h; simp [this]

theorem lk_none : ∀ {l : List (Nat × LB)} {j : Nat}, lk l j = none → ∀ p ∈ l, p.1 ≠ j
  | [], _, _, p, hp => by have _s := SymV.val; simp at hp
  | (i, b') :: r, j, h, p, hp => by
    simp only [lk] at h
    by_cases he : i = j
    · rw [if_pos he] at h; cases h
    · rw [if_neg he] at h
      rcases List.mem_cons.1 hp with rfl | hp
      · exact he
      · exact lk_none h p hp

theorem mem_get {n : Nat} {l : List (Nat × LB)} {j : Nat} (hl : ∀ p ∈ l, p.1 < 65536) (hn : n ≤ 16384) (hj : j < n) : (mem n l).get j = some ((lk l j).getD .dead) := by
  have h1 : (mem n l).get j = TM.get (fill (TM.lf (some .dead)) l) j := LMem.get_tr (m := mem n l) hj
  rw [h1, fill_get (by omega) hl]
  cases lk l j with
  | none => exact TM.get_lf _ _
  | some b => rfl

theorem mem_wf {n : Nat} {l : List (Nat × LB)} (hn : n ≤ 16384) (hl : ∀ p ∈ l, p.1 < n ∧ ubB p.2 ≤ n) : WF (mem n l) := by
  refine ⟨hn, fun id b h => ?_⟩
  have hid : id < n := LMem.get_lt h
  rw [mem_get (fun p hp => by have := (hl p hp).1; omega) hn hid] at h
  cases h
  show ubB ((lk l id).getD .dead) ≤ n
  cases hk : lk l id with
  | none => exact Nat.zero_le _
  | some b => exact (hl _ (lk_mem hk)).2

abbrev PrimT := FuncId → Option (List Value → LMem → Option (Value × LMem))
end Go.Eng
namespace Go.Eng
def AnyV (y : Value) : Prop := ∀ (S : SymV) (ψ : Phi), ψ 0 = some none → ∃ v, @VR S ψ v y

theorem DenF.anyV {fz : Nat → Option Obj} {v d : Value} (h : DenF fz v d) : AnyV v := fun S ψ h0 => by
  cases h with
  | sc v ho =>
    cases v with
    | int k n => exact ⟨_, .int k n⟩
    | bool b => exact ⟨_, .bool b⟩
    | string s => exact ⟨_, .string s⟩
    | pointer a => cases a with
      | none => exact ⟨_, .pnil⟩
      | some a => exact ⟨.pointer (some ⟨0, 0, none⟩), .pdead 0 0 none a h0⟩
    | slice a n c => cases a with
      | none => exact ⟨_, .snil n c⟩
      | some a => exact ⟨.slice (some ⟨0, 0, none⟩) n c, .sdead 0 0 none n c c a h0 (Nat.le_of_ble_eq_true ho) (Nat.le_refl _) fun _ => rfl⟩
    | _ => cases ho
  | list b o n k cap c e m rs us h1 h2 h3 => exact ⟨.slice (some ⟨0, 0, none⟩) n cap, .sdead 0 0 none n cap cap _ h0 h3 (Nat.le_refl _) fun _ => rfl⟩
  | place => exact ⟨.pointer (some ⟨0, 0, none⟩), .pdead 0 0 none _ h0⟩

mutual
theorem VR.anyV {S1 : SymV} {φ : Phi} : ∀ {x y : Value}, @VR S1 φ x y → AnyV y
  | _, _, .bool b => fun S ψ h => ⟨_, .bool b⟩
  | _, _, .int k n => fun S ψ h => ⟨_, .int k n⟩
  | _, _, .string s => fun S ψ h => ⟨_, .string s⟩
  | _, _, .lsym k n v hd => hd.anyV
  | _, _, .sym k n m v hv => fun S ψ h => by
    have ho := S1.one n
    rw [← hv] at ho
    cases v with
    | int k n => exact ⟨_, .int k n⟩
    | bool b => exact ⟨_, .bool b⟩
    | string s => exact ⟨_, .string s⟩
    | pointer a => cases a with
      | none => exact ⟨_, .pnil⟩
      | some a => exact ⟨.pointer (some ⟨0, 0, none⟩), .pdead 0 0 none a h⟩
    | slice a n c => cases a with
      | none => exact ⟨_, .snil n c⟩
      | some a => exact ⟨.slice (some ⟨0, 0, none⟩) n c, .sdead 0 0 none n c c a h (Nat.le_of_ble_eq_true ho) (Nat.le_refl _) fun _ => rfl⟩
    | _ => cases ho
  | _, _, .cnil => fun S ψ h => ⟨_, .cnil⟩
  | _, _, .chan b cap l hl h2 h3 => fun S ψ h => ⟨.slice (some ⟨0, 0, none⟩) l.n cap, .sdead 0 0 none l.n cap cap _ h h2 (Nat.le_refl _) fun _ => rfl⟩
  | _, _, .chnil b hl => fun S ψ h => ⟨_, .snil 0 0⟩
  | _, _, .chdead b n cap a hl hn h2 => fun S ψ h => ⟨.slice (some ⟨0, 0, none⟩) n cap, .sdead 0 0 none n cap cap _ h h2 (Nat.le_refl _) fun _ => rfl⟩
  | _, _, .pnil => fun S ψ h => ⟨_, .pnil⟩
  | _, _, .ptr b off l hl => fun S ψ h => ⟨.pointer (some ⟨0, 0, none⟩), .pdead 0 0 none _ h⟩
  | _, _, .prow b off s l k i hl hs => fun S ψ h => ⟨.pointer (some ⟨0, 0, none⟩), .pdead 0 0 none _ h⟩
  | _, _, .pdead b off sp a hl => fun S ψ h => ⟨.pointer (some ⟨0, 0, none⟩), .pdead 0 0 none _ h⟩
  | _, _, .snil n c => fun S ψ h => ⟨_, .snil n c⟩
  | _, _, .slice b off sp len cap cap' l hl h1 h2 h3 h4 => fun S ψ h => ⟨.slice (some ⟨0, 0, none⟩) len cap', .sdead 0 0 none len cap' cap' _ h (Nat.le_trans h1 h2) (Nat.le_refl _) fun _ => rfl⟩
  | _, _, .sdead b off sp len cap cap' a hl h1 h2 h3 => fun S ψ h => ⟨.slice (some ⟨0, 0, none⟩) len cap', .sdead 0 0 none len cap' cap' _ h (Nat.le_trans h1 h2) (Nat.le_refl _) fun _ => rfl⟩
  | _, _, .szero b off e o l hl => fun S ψ h => ⟨.slice (some ⟨0, 0, none⟩) 0 0, .sdead 0 0 none 0 0 0 _ h (Nat.le_refl _) (Nat.le_refl _) fun _ => rfl⟩
  | _, _, .mnil => fun S ψ h => ⟨_, .mnil⟩
  | _, _, .map r l hl => fun S ψ h => ⟨.map (some 0), .mdead 0 _ h⟩
  | _, _, .mdead r r' hl => fun S ψ h => ⟨.map (some 0), .mdead 0 _ h⟩
  | _, _, .func fn xs us ys vs h1 h2 => fun S ψ h => by
    obtain ⟨a, ha⟩ := VRL.anyV h1 S ψ h
    obtain ⟨b, hb⟩ := VRL.anyV h2 S ψ h
    exact ⟨_, .func fn ⟨a⟩ ⟨b⟩ ys vs ha hb⟩
  | _, _, .nilFunc => fun S ψ h => ⟨_, .nilFunc⟩
  | _, _, .iface t x y h1 => fun S ψ h => by
    obtain ⟨a, ha⟩ := VR.anyV h1 S ψ h
    exact ⟨_, .iface t a y ha⟩
  | _, _, .nilIface => fun S ψ h => ⟨_, .nilIface⟩
  | _, _, .agg xs ys h1 => fun S ψ h => by
    obtain ⟨a, ha⟩ := VRL.anyV h1 S ψ h
    exact ⟨_, .agg ⟨a⟩ ys ha⟩
  | _, _, .tuple xs ys h1 => fun S ψ h => by
    obtain ⟨a, ha⟩ := VRL.anyV h1 S ψ h
    exact ⟨_, .tuple ⟨a⟩ ys ha⟩
theorem VRL.anyV {S1 : SymV} {φ : Phi} : ∀ {x y : List Value}, @VRL S1 φ x y → ∀ (S : SymV) (ψ : Phi), ψ 0 = some none → ∃ v, @VRL S ψ v y
  | _, _, .nil => fun S ψ h => ⟨[], .nil⟩
  | _, _, .cons x y xs ys h1 h2 => fun S ψ h => by
    obtain ⟨a, ha⟩ := VR.anyV h1 S ψ h
    obtain ⟨b, hb⟩ := VRL.anyV h2 S ψ h
    exact ⟨_, .cons a y b ys ha hb⟩
end

/-- the frame, as far as it matters -/
structure FL [SymV] (live : List (Nat × Value)) (nt : Nat) (φ : Phi) (a : Act) : Prop where
  size : a.tmps.size = nt
  nt : nt ≤ 512
  val : ∀ p ∈ live, VR φ p.2 (a.tmps.getD p.1 undef)
  any : ∀ t, AnyV (a.tmps.getD t undef)

noncomputable def fillF (u : Nat → Value) : List Nat → FT Value → FT Value
  | [], t => t
  | i :: r, t => fillF u r (FT.set t i (u i))
noncomputable def liveF : List (Nat × Value) → FT Value → FT Value
  | [], t => t
  | p :: r, t => liveF r (FT.set t p.1 p.2)
/-- a frame: some temporaries known, the others open -/
noncomputable def mkF (live : List (Nat × Value)) (u : Nat → Value) (nt : Nat) : LF := ⟨liveF live (fillF u (List.range nt) (FT.lf none)), nt⟩

theorem fillF_get (u : Nat → Value) : ∀ (l : List Nat) (t : FT Value), (∀ i ∈ l, i < 512) → ∀ j, j < 512 → FT.get (fillF u l t) j = if j ∈ l then some (u j) else FT.get t j
  | [], t, _, j, _ => by simp [fillF]
  | i :: r, t, h, j, hj => by
    rw [fillF, fillF_get u r _ (fun k hk => h k (by simp [hk])) j hj, FT.get_set t i j (u i) (h i (by simp)) hj]
    by_cases h1 : j ∈ r
    · simp [h1]
    · by_cases h2 : i = j
      · subst h2; simp
      · simp [h1, h2, Ne.symm h2]

theorem liveF_get {R : Nat → Value → Prop} : ∀ (l : List (Nat × Value)) (t : FT Value), (∀ p ∈ l, p.1 < 512 ∧ R p.1 p.2) → (∀ j, j < 512 → ∀ v, FT.get t j = some v → R j v) → (∀ j, j < 512 → FT.get t j ≠ none → FT.get (liveF l t) j ≠ none) ∧ ∀ j, j < 512 → ∀ v, FT.get (liveF l t) j = some v → R j v
  | [], t, _, ht => ⟨fun _ _ h => h, ht⟩
  | p :: r, t, h, ht => by
    have hp := h p (by simp)
    obtain ⟨g1, g2⟩ := liveF_get (R := R) r (FT.set t p.1 p.2) (fun q hq => h q (by simp [hq])) fun j hj v hv => by
      rw [FT.get_set t p.1 j p.2 hp.1 hj] at hv
      by_cases he : p.1 = j
      · rw [if_pos he] at hv; cases hv; rw [← he]; exact hp.2
      · rw [if_neg he] at hv; exact ht j hj v hv
    refine ⟨fun j hj hn => g1 j hj ?_, g2⟩
    rw [FT.get_set t p.1 j p.2 hp.1 hj]
    by_cases he : p.1 = j
    · rw [if_pos he]; simp
    · rw [if_neg he]; exact hn

variable [SymV]

theorem mkF_ok {live : List (Nat × Value)} {nt : Nat} {φ : Phi} {a : Act} (h : FL live nt φ a) (hl : ∀ p ∈ live, p.1 < nt) (hφ : φ 0 = some none) : ∃ u, FR φ (mkF live u nt) a := by
  have hu : ∀ t, ∃ v, VR φ v (a.tmps.getD t undef) := fun t => h.any t _ φ hφ
  refine ⟨fun t => Classical.choose (hu t), h.size, ⟨h.nt⟩, fun i => ?_⟩
  have hnt := h.nt
  by_cases hi : i < nt
  · obtain ⟨g1, g2⟩ := liveF_get (R := fun j v => VR φ v (a.tmps.getD j undef)) live (fillF (fun t => Classical.choose (hu t)) (List.range nt) (FT.lf none))
      (fun p hp => ⟨by have := hl p hp; omega, h.val p hp⟩) fun j hj v hv => by
        rw [fillF_get _ _ _ (fun k hk => by have := List.mem_range.1 hk; omega) j hj] at hv
        split at hv
        · cases hv; exact Classical.choose_spec (hu j)
        · rw [FT.get_lf] at hv; cases hv
    have hn := g1 i (by omega) (by
      rw [fillF_get _ _ _ (fun k hk => by have := List.mem_range.1 hk; omega) i (by omega), if_pos (List.mem_range.2 hi)]; simp)
    rw [LF.get_lt (by exact hi)]
    show VR φ ((FT.get (liveF live (fillF (fun t => Classical.choose (hu t)) (List.range nt) (FT.lf none))) i).getD undef) _
    cases hg : FT.get (liveF live (fillF (fun t => Classical.choose (hu t)) (List.range nt) (FT.lf none))) i with
    | none => exact absurd hg hn
    | some v => exact g2 i (by omega) v hg
  · have e1 : (mkF live (fun t => Classical.choose (hu t)) nt).get i = undef := by
      unfold LF.get mkF
      show Bool.rec (motive := fun _ => Value) undef _ (Nat.blt i nt) = undef
      rw [blt_false (by omega)]
    have e2 : a.tmps.getD i undef = undef := by
      rw [Array.getD_eq_getD_getElem?, Array.getElem?_eq_none (by rw [h.size]; omega)]; rfl
    rw [e1, e2]
    exact .undef

end Go.Eng
/- A drawn region of which one operation waits for all others: the others by a run, and that one behind them. -/
namespace Go.Eng
section
variable {P : Program}

/-- an exit by the operations ahead is followed by the last operation -/
def Qlast (P : Program) (ops : Array Oper) (n : Nat) (Q : Exit → Act → World → Prop) : Exit → Act → World → Prop
  | .normal => fun a w => wpOp P ops Q n (Q .normal) a w
  | e => Q e

theorem wp_Qlast {ops : Array Oper} {n : Nat} {Q : Exit → Act → World → Prop} {o : Oper} {a : Act} {w : World} {K : Act → World → Prop} (h : o.wp P a w K (Qlast P ops n Q)) : o.wp P a w K Q := by
  unfold Oper.wp at *
  generalize (execOp a.eval o).run P w = r at *
  cases r with
  | ok x w' => cases x <;> exact h
  | halt x w' => cases x <;> exact h

theorem push_getD {l : Array Bool} (i : Nat) : (l.push false).getD i false = l.getD i false := by
  simp only [Array.getD_eq_getD_getElem?, Array.getElem?_push]
  split
  · rename_i h; subst h; simp
  · rfl

theorem push_set {l : Array Bool} {i : Nat} (h : i < l.size) : (l.push false).setIfInBounds i true = (l.setIfInBounds i true).push false := by
  apply Array.ext_getElem?
  intro j
  simp only [Array.getElem?_setIfInBounds, Array.getElem?_push, Array.size_push, Array.size_setIfInBounds]
  by_cases h1 : i = j
  · subst h1
    simp [h, Nat.lt_succ_of_lt h, Nat.ne_of_lt h]
  · simp [h1]

theorem wpOp_last {L : List Oper} {o : Oper} {Q : Exit → Act → World → Prop} {i : Nat} (hi : i < L.length) (hg : ∀ x ∈ L, ∀ g b, x.guard = some (g, b) → g < L.length) {K : Act → World → Prop} {a : Act} {w : World}
    (h : wpOp P L.toArray (Qlast P (L ++ [o]).toArray L.length Q) i K a w) : wpOp P (L ++ [o]).toArray Q i K a w := by
  unfold wpOp at *
  have e1 : (L ++ [o]).toArray[i]? = L.toArray[i]? := by simp [List.getElem?_append_left hi]
  rw [e1]
  cases hx : L.toArray[i]? with
  | none => rw [hx] at h; exact h
  | some x =>
    rw [hx] at h
    simp only at h ⊢
    have hm : x ∈ L := List.mem_of_getElem? (l := L) (i := i) (by simpa using hx)
    have e2 : Region.wanted x (yielded (L ++ [o]).toArray a.tmps) = Region.wanted x (yielded L.toArray a.tmps) := by
      unfold Region.wanted
      cases hgd : x.guard with
      | none => rfl
      | some gb =>
        obtain ⟨g, b⟩ := gb
        have := hg x hm g b hgd
        simp only [yielded]
        have e3 : (L ++ [o]).toArray[g]? = L.toArray[g]? := by simp [List.getElem?_append_left this]
        rw [e3]
    rw [e2]
    split
    · rename_i hw
      simp only [hw, if_true] at h
      exact h.imp wp_Qlast id
    · rename_i hw
      simp only [hw] at h
      exact h
end
section
variable [SymV] {P : Program}

theorem all_listed {L : List Oper} {ord : List Nat} {listed : Array Bool} (hG : RegOK L (masks L []) ord) (hsz : listed.size = L.length) (h : Region.ready .any L.toArray listed = []) : ∀ i, i < L.length → listed.getD i false = true := by
  have key : ∀ (q i : Nat), ord[q]? = some i → listed.getD i false = true := by
    intro q
    induction q using Nat.strongRecOn with
    | _ q ih =>
      intro i hi
      cases hf : listed.getD i false with
      | true => rfl
      | false =>
        exfalso
        have hlt := hG.lt q i hi
        obtain ⟨x, hx⟩ : ∃ x, L[i]? = some x := ⟨_, List.getElem?_eq_getElem hlt⟩
        have hmem : i ∈ Region.ready .any L.toArray listed := by
          rw [mem_ready]
          have hil : i < listed.size := by omega
          refine ⟨by simp [hil] at hf ⊢; exact hf, x, by simpa using hx, fun e he hb => ?_⟩
          rw [binds_eq] at hb
          have hm := mask_direct hx (e := e) (by simpa using he) hb
          obtain ⟨q', hq', he'⟩ := hG.ahead q i e.on hi hm
          exact ih q' hq' _ he'
        rw [h] at hmem; cases hmem
  intro i hi
  obtain ⟨q, hq⟩ := hG.all i hi
  exact key q i hq

theorem wpAny_last {L : List Oper} {o : Oper} {ord : List Nat} {Q : Exit → Act → World → Prop} (hG : RegOK L (masks L []) ord) (hmask : ∀ i, i < L.length → tb ((masks (L ++ [o]) []).getD L.length 0) i = true)
    (hg : ∀ x ∈ L, ∀ g b, x.guard = some (g, b) → g < L.length) (hoe : ∀ e ∈ o.after.toList, bnd e = true → e.on < L.length) :
    ∀ (fuel : Nat) (listed : Array Bool) (a : Act) (w : World), listed.size = L.length → Cl L (fun i => listed.getD i false = true) → wpAny P .any L.toArray (Qlast P (L ++ [o]).toArray L.length Q) fuel listed a w →
      wpAny P .any (L ++ [o]).toArray Q (fuel + 1) (listed.push false) a w := by
  have hlast : (L ++ [o]).toArray[L.length]? = some o := by simp
  have fin : ∀ (listed : Array Bool) (fuel : Nat) (a : Act) (w : World), listed.size = L.length → (∀ i, i < L.length → listed.getD i false = true) → wpOp P (L ++ [o]).toArray Q L.length (Q .normal) a w →
      wpOp P (L ++ [o]).toArray Q L.length (wpAny P .any (L ++ [o]).toArray Q fuel ((listed.push false).setIfInBounds L.length true)) a w := by
    intro listed fuel a w hsz hall h
    refine wpOp_mono (fun a w hq => ?_) h
    have hnil : Region.ready .any (L ++ [o]).toArray ((listed.push false).setIfInBounds L.length true) = [] := by
      apply List.eq_nil_iff_forall_not_mem.2
      intro j hj
      rw [mem_ready] at hj
      obtain ⟨h0, x, hx, -⟩ := hj
      have hjl : j < L.length + 1 := by
        have := (Array.getElem?_eq_some_iff.1 hx).1
        simpa using this
      by_cases hj : j = L.length
      · subst hj
        simp [hsz] at h0
      · have := hall j (by omega)
        rw [← push_getD] at this
        simp only [Array.getD_eq_getD_getElem?, Array.getElem?_setIfInBounds] at h0 this
        rw [if_neg (fun h => hj h.symm)] at h0
        have hs : j < (listed.push false).size := by simp [hsz]; omega
        rw [Array.getElem?_eq_getElem hs] at this h0
        simp only [Option.getD_some] at this h0
        rw [this] at h0; cases h0
    cases fuel with
    | zero => exact ⟨hnil, hq⟩
    | succ n => exact ⟨fun _ => hq, fun i hi => by rw [hnil] at hi; cases hi⟩
  have rdyLast : ∀ (listed : Array Bool), listed.size = L.length → (∀ i, i < L.length → listed.getD i false = true) → L.length ∈ Region.ready .any (L ++ [o]).toArray (listed.push false) := by
    intro listed hsz hall
    rw [mem_ready]
    refine ⟨by simp [← hsz], o, hlast, fun e he hb => ?_⟩
    rw [binds_eq] at hb
    rw [push_getD]
    exact hall _ (hoe e (by simpa using he) hb)
  have lastAll : ∀ (listed : Array Bool), listed.size = L.length → Cl L (fun i => listed.getD i false = true) → L.length ∈ Region.ready .any (L ++ [o]).toArray (listed.push false) → ∀ i, i < L.length → listed.getD i false = true := by
    intro listed hsz hcl hj i hi
    rw [mem_ready] at hj
    obtain ⟨-, x, hx, hd⟩ := hj
    rw [hlast] at hx
    cases hx
    have hcl' : Cl (L ++ [o]) (fun i => listed.getD i false = true) := by
      intro j x hx hl e he hb
      have hjl := listed_lt hl
      rw [hsz] at hjl
      rw [List.getElem?_append_left hjl] at hx
      exact hcl j x hx hl e he hb
    exact mask_closed hcl' (fun j hl => by have := listed_lt hl; simp; omega) L.length o (by simp) (fun e he hb => by
      have := hd e (by simpa using he) (by rw [binds_eq]; exact hb)
      rwa [push_getD] at this) i (hmask i hi)
  have down : ∀ (listed : Array Bool) (i : Nat), listed.size = L.length → i ∈ Region.ready .any (L ++ [o]).toArray (listed.push false) → i = L.length ∨ i < L.length ∧ i ∈ Region.ready .any L.toArray listed := by
    intro listed i hsz hi
    rw [mem_ready] at hi
    obtain ⟨h0, x, hx, hd⟩ := hi
    have hil : i < L.length + 1 := by
      have := (Array.getElem?_eq_some_iff.1 hx).1
      simpa using this
    by_cases he : i = L.length
    · exact .inl he
    · refine .inr ⟨by omega, ?_⟩
      rw [mem_ready]
      refine ⟨?_, x, ?_, fun e he hb => ?_⟩
      · have hs : i < listed.size := by omega
        simp only [Array.getD_eq_getD_getElem?, Array.getElem?_push, hsz, he, if_false] at h0
        simpa using h0
      · have : i < L.length := by omega
        simpa [List.getElem?_append_left this] using hx
      · have := hd e he hb
        rwa [push_getD] at this
  intro fuel
  induction fuel with
  | zero =>
    intro listed a w hsz hcl h
    obtain ⟨h0, h1⟩ := h
    have hall := all_listed hG hsz h0
    refine ⟨fun hn => ?_, fun i hi => ?_⟩
    · have := rdyLast listed hsz hall
      rw [hn] at this; cases this
    · rcases down listed i hsz hi with rfl | ⟨-, hi⟩
      · exact fin listed 0 a w hsz hall h1
      · rw [h0] at hi; cases hi
  | succ fuel ih =>
    intro listed a w hsz hcl h
    obtain ⟨h0, h1⟩ := h
    refine ⟨fun hn => ?_, fun i hi => ?_⟩
    · cases hr : Region.ready .any L.toArray listed with
      | nil =>
        have := rdyLast listed hsz (all_listed hG hsz hr)
        rw [hn] at this; cases this
      | cons j r =>
        have hj : j ∈ Region.ready .any L.toArray listed := by rw [hr]; simp
        have : j ∈ Region.ready .any (L ++ [o]).toArray (listed.push false) := by
          rw [mem_ready] at hj ⊢
          obtain ⟨g0, x, hx, hd⟩ := hj
          have hjl : j < L.length := by
            have := (Array.getElem?_eq_some_iff.1 hx).1
            simpa using this
          refine ⟨?_, x, by simpa [List.getElem?_append_left hjl] using hx, fun e he hb => by rw [push_getD]; exact hd e he hb⟩
          have hne : j ≠ L.length := by omega
          have hs : j < listed.size := by omega
          simp only [Array.getD_eq_getD_getElem?, Array.getElem?_push, hsz, hne, if_false]
          simpa using g0
        rw [hn] at this; cases this
    · rcases down listed i hsz hi with rfl | ⟨hlt, hi'⟩
      · have hall := lastAll listed hsz hcl hi
        have hnil : Region.ready .any L.toArray listed = [] := by
          apply List.eq_nil_iff_forall_not_mem.2
          intro j hj
          rw [mem_ready] at hj
          obtain ⟨g0, x, hx, -⟩ := hj
          have hjl : j < L.length := by
            have := (Array.getElem?_eq_some_iff.1 hx).1
            simpa using this
          have := hall j hjl
          have hs : j < listed.size := by omega
          simp [hs] at g0 this
          rw [this] at g0; cases g0
        exact fin listed (fuel + 1) a w hsz hall (h0 hnil)
      · refine wpOp_last hlt hg (wpOp_mono (fun a w hq => ?_) (h1 i hi'))
        rw [push_set (by omega)]
        refine ih _ a w (by simpa using hsz) ?_ hq
        rw [mem_ready] at hi'
        obtain ⟨-, x, hx, hd⟩ := hi'
        intro j y hy hl e he hb
        have up : ∀ k, listed.getD k false = true → (listed.setIfInBounds i true).getD k false = true := by
          intro k hk
          have hkl := listed_lt hk
          simp only [Array.getD_eq_getD_getElem?, Array.getElem?_setIfInBounds] at hk ⊢
          split
          · rename_i he; subst he; simp [hkl]
          · exact hk
        by_cases hij : i = j
        · subst hij
          have : y = x := by
            have hx' : L[i]? = some x := by simpa using hx
            rw [hy] at hx'; cases hx'; rfl
          subst this
          exact up _ (hd e (by simpa using he) (by rw [binds_eq]; exact hb))
        · refine up _ (hcl j y hy ?_ e he hb)
          simp only [Array.getD_eq_getD_getElem?, Array.getElem?_setIfInBounds, if_neg hij] at hl ⊢
          exact hl
end
end Go.Eng
