/- The engine's effects are those of the model: append, the whole. -/
import Derived.Test.YtopofdjgfbimnaaGreatEngI
namespace Go.Eng
variable [SymV] [SymT]
section
variable {P : Program}

/-- a result of an effect that is a value -/
def Good (m m' : LMem) (v : Value) (φ : Phi) (w : World) (r : Result Value) : Prop :=
  ∃ v' w' φ', r = .ok v' w' ∧ Sim m.next φ φ' w w' ∧ VR φ' v v' ∧ MR φ' m'.get w' ∧ Bd φ' m'.next

theorem grown_size {old new : Array Value} {z : Value} {n k c size : Nat} (h1 : old.size = n * size) (h2 : new.size = k * size) (h3 : z.cells.size = size) (h4 : n + k ≤ c) :
    (old ++ new ++ Builtin.zeroCells z.cells (c - (n + k))).size = c * size := by
  have _s := SymT.tab
  simp only [Array.size_append, size_zeroCells, h1, h2, h3]
  rw [← Nat.add_mul, ← Nat.add_mul]
  congr 1
  omega

/-- a row made anew by append -/
theorem grown_sim {φ : Phi} {m m1 : LMem} {w : World} {old vs : List Value} {o n : Array Value} {z : Value} {e : TypeId} {len k c size : Nat} (hw : WF m) (hm : MR φ m.get w) (hb : Bd φ m.next)
    (ha : m.alloc (.cells (old ++ vs)) = some m1) (ho : VRL φ old o.toList) (hn : VRL φ vs n.toList) (h1 : old.length = len * size) (h2 : vs.length = k * size) (h3 : z.cells.size = size) (h4 : len + k ≤ c) :
    ∃ φ', φ' = ins φ m.next ⟨w.heap.size, 0, (o ++ n ++ Builtin.zeroCells z.cells (c - (len + k))).size⟩ ∧
      Sim m.next φ φ' w (w.drew.alloc (.cells (o ++ n ++ Builtin.zeroCells z.cells (c - (len + k))) e)) ∧
      VR φ' (.slice (some ⟨m.next, 0, some size⟩) (len + k) (len + k)) (.slice (some ⟨w.heap.size, 0, none⟩) (len + k) c) ∧
      MR φ' m1.get (w.drew.alloc (.cells (o ++ n ++ Builtin.zeroCells z.cells (c - (len + k))) e)) ∧ Bd φ' m1.next := by
  have hnx : φ m.next = none := hb.none (Nat.le_refl _)
  have hbr := grown_BR (φ := ins φ m.next ⟨w.heap.size, 0, (o ++ n ++ Builtin.zeroCells z.cells (c - (len + k))).size⟩) (w := w) (z := Builtin.zeroCells z.cells (c - (len + k))) (e := e)
    (ho.mono (ins_ext hnx)) (hn.mono (ins_ext hnx)) rfl
  obtain ⟨q1, q2, q3, _, _⟩ := alloc_world (w0 := w.drew) hw hm hb ha rfl rfl rfl rfl rfl hbr
  refine ⟨_, rfl, q1, ?_, q2, q3⟩
  have hsz : (o ++ n ++ Builtin.zeroCells z.cells (c - (len + k))).size = c * size := by
    refine grown_size ?_ ?_ h3 h4
    · have := ho.length; simp at this; omega
    · have := hn.length; simp at this; omega
  exact .slice m.next 0 (some size) (len + k) (len + k) c ⟨w.heap.size, 0, _⟩ (ins_same _ _ _) (Nat.le_refl _) h4 (fun h => by cases h) (fun e' he' => by cases he'; rw [hsz]; simp)

theorem append_sim {m m' : LMem} {v s x : Value} {t u ty : TypeId} {du : TypeDesc} (hw : WF m) (h : lappend P t s x m = some (v, m')) (hu : P.underlying u = some du) (hd : (∃ q, du = .slice q) ∨ du = .string) :
    (m.next ≤ m'.next ∧ WF m') ∧ ∀ φ w s' x', MR φ m.get w → Bd φ m.next → VR φ s s' → VR φ x x' → Good m m' v φ w ((Builtin.append_ #[t, u] ty #[s', x']).run P w) := by
  unfold lappend at h
  split at h
  case h_2 => cases h
  rename_i e ht
  split at h
  case h_2 => cases h
  rename_i ie hie
  split at h
  case h_2 => cases h
  rename_i k vs z he hz
  cases hq : (Nat.ble 1 ie.size && Nat.ble k 1048576 && Nat.ble ie.bytes 4096 && Nat.beq z.cells.toList.length ie.size && vs.all Value.oneCell') with
  | false => simp only [hq, cond_false] at h; cases h
  | true =>
  simp only [hq, cond_true] at h
  simp only [Bool.and_eq_true] at hq
  obtain ⟨⟨⟨⟨k1, k2⟩, k3⟩, k4⟩, k5⟩ := hq
  have k1 := Nat.le_of_ble_eq_true k1
  have k2 := Nat.le_of_ble_eq_true k2
  have k3 := Nat.le_of_ble_eq_true k3
  have k4 := Nat.eq_of_beq_eq_true k4
  have k4' : z.cells.size = ie.size := by simpa using k4
  have hroomN : m.next < 1152921504606846976 := by have := hw.room; omega
  split at h
  · -- nil
    cases hk : Nat.beq k 0 with
    | true =>
      simp only [hk, cond_true, Option.some.injEq, Prod.mk.injEq] at h
      obtain ⟨rfl, rfl⟩ := h
      have := Nat.eq_of_beq_eq_true hk
      subst this
      refine ⟨⟨Nat.le_refl _, hw⟩, fun φ w s' x' hm hb hs hx => ?_⟩
      cases hs
      obtain ⟨g1, g2, g3⟩ := elems_sim (P := P) hm.part he hx
      obtain ⟨new, g4, _⟩ := g3
      exact ⟨_, w, φ, run_append_fits_nil w ht hu hd hie g1 (g4 w rfl), Sim.refl _ φ w, .snil 0 0, hm, hb⟩
    | false =>
      simp only [hk, cond_false] at h
      split at h
      case h_2 => cases h
      rename_i m1 ha
      simp only [Option.some.injEq, Prod.mk.injEq] at h
      obtain ⟨rfl, rfl⟩ := h
      obtain ⟨a1, a2, a3, a4⟩ := LMem.alloc_spec hw ha
      refine ⟨⟨by omega, a4⟩, fun φ w s' x' hm hb hs hx => ?_⟩
      cases hs
      obtain ⟨g1, g2, new, g4, g5⟩ := elems_sim (P := P) hm.part he hx
      have hk0 : ¬ k = 0 := fun h0 => by rw [h0] at hk; cases hk
      obtain ⟨c', hc1, hrun⟩ := run_append_grows (ty := ty) (base := none) (n := 0) (cp := 0) (old := #[]) w ht hu hd hie hz k3 g1 (by omega) (by omega) (fun W _ => rfl) g4
      obtain ⟨φ', _, q1, q2, q3, q4⟩ := grown_sim (old := []) (o := #[]) (len := 0) (e := e) hw hm hb ha .nil g5 (by simp) g2 k4' hc1
      rw [Nat.zero_add] at q2 hrun
      simp only [Nat.zero_add] at q1 q3 hrun
      exact ⟨_, _, φ', hrun, q1, q2, q3, q4⟩
  · rename_i b off sp len cap
    cases hzz : isZ sp with
    | true => simp [hzz] at h
    | false =>
    simp only [hzz, cond_false] at h
    cases hle : Nat.ble (len + k) cap with
    | true =>
      simp only [hle, cond_true] at h
      have hle' := Nat.le_of_ble_eq_true hle
      split at h
      case h_2 => cases h
      rename_i m1 hst
      simp only [Option.some.injEq, Prod.mk.injEq] at h
      obtain ⟨rfl, rfl⟩ := h
      obtain ⟨c0, s1, s2, s3, s4, s5, s6, s7⟩ := store_wf hw hst
      refine ⟨⟨by omega, s6⟩, fun φ w s' x' hm hb hs hx => ?_⟩
      obtain ⟨g1, g2, new, g4, g5⟩ := elems_sim (P := P) hm.part he hx
      cases hs with
      | sdead _ _ _ _ _ cap' a hl =>
        have := hm.dead b hl
        rw [s1] at this; cases this
      | szero _ _ e0 o l hl =>
        have hk0 : k = 0 := by omega
        subst hk0
        obtain ⟨l', w', hl', hrun, hsim, hmr⟩ := store_sim (P := P) hw hst hm (by rw [hl]; simp) g5
        have hnil : new.toList = [] := by
          have := g5.length
          rw [g2, Nat.zero_mul] at this
          exact List.eq_nil_of_length_eq_zero this.symm
        rw [hnil] at hrun
        have hw' : w' = w := by
          have : Result.ok () w = Result.ok () w' := hrun
          cases this; rfl
        subst hw'
        refine ⟨_, w', φ, run_append_fits (a := ⟨l.b, o, none⟩) w' w' ht hu hd hie g1 (Nat.le_refl 0) (g4 w' rfl) (by rw [hnil]; rfl), hsim, ?_, hmr, by rw [s7]; exact hb⟩
        exact .szero b off e0 o l hl
      | slice _ _ _ _ _ cap' l hl hlen hcap hex hsz =>
        obtain ⟨l', w', hl', hrun, hsim, hmr⟩ := store_sim (P := P) hw hst hm (by rw [hl]; simp) g5
        rw [hl] at hl'; cases hl'
        have hrun' : (storeCells ((⟨l.b, l.sh + off, none⟩ : Addr).add (len * ie.size)) new.toList).run P w = .ok () w' := by
          rw [addr_add, Nat.add_assoc]; exact hrun
        refine ⟨_, w', φ, run_append_fits w w' ht hu hd hie g1 (by omega) (g4 w rfl) hrun', hsim, ?_, hmr, by rw [s7]; exact hb⟩
        exact .slice b off sp (len + k) cap cap' l hl hle' hcap hex hsz
    | false =>
      simp only [hle, cond_false] at h
      have hgt : cap < len + k := by
        rcases Nat.lt_or_ge cap (len + k) with h' | h'
        · exact h'
        · rw [Nat.ble_eq_true_of_le h'] at hle; cases hle
      cases hsm : (Nat.ble (len + k) 1048576 && Nat.ble cap 1048576) with
      | false => simp only [hsm, cond_false] at h; cases h
      | true =>
      simp only [hsm, cond_true] at h
      rw [Bool.and_eq_true] at hsm
      have hsm1 := Nat.le_of_ble_eq_true hsm.1
      split at h
      case h_2 => cases h
      rename_i c0 hc0
      split at h
      case h_2 => cases h
      rename_i old hold
      split at h
      case h_2 => cases h
      rename_i m1 ha
      obtain ⟨a1, a2, a3, a4⟩ := LMem.alloc_spec hw ha
      have hbn : b < m.next := LMem.get_lt hc0
      split at h
      · -- the capacity is known
        simp only [Option.some.injEq, Prod.mk.injEq] at h
        obtain ⟨rfl, rfl⟩ := h
        refine ⟨⟨by omega, a4⟩, fun φ w s' x' hm hb hs hx => ?_⟩
        obtain ⟨g1, g2, new, g4, g5⟩ := elems_sim (P := P) hm.part he hx
        cases hs with
        | sdead _ _ _ _ _ cap' a hl =>
          have := hm.dead b hl
          rw [hc0] at this; cases this
        | slice _ _ _ _ _ cap' l hl hlen hcap hex hsz =>
          have := hex rfl
          subst this
          obtain ⟨B, hB, hbr⟩ := hm.live b l hl
          rw [hc0] at hB; cases hB
          obtain ⟨o, r1, r2, r3⟩ := row_sim (P := P) (BR.rd (.inl hbr)) hold
          obtain ⟨c', hc1, hrun⟩ := run_append_grows (ty := ty) (base := some ⟨l.b, l.sh + off, none⟩) (n := len) (cp := cap') (old := o) w ht hu hd hie hz k3 g1 (by omega) (by omega) r1 g4
          obtain ⟨φ', _, q1, q2, q3, q4⟩ := grown_sim (e := e) hw hm hb ha r2 g5 r3 g2 k4' hc1
          exact ⟨_, _, φ', hrun, q1, q2, q3, q4⟩
      · -- the capacity is known from below alone
        rename_i es
        cases hes : Nat.beq es ie.size with
        | false => simp only [hes, cond_false] at h; cases h
        | true =>
        simp only [hes, cond_true] at h
        have hes' := Nat.eq_of_beq_eq_true hes
        split at h
        case h_2 => cases h
        rename_i m2 hput
        simp only [Option.some.injEq, Prod.mk.injEq] at h
        obtain ⟨rfl, rfl⟩ := h
        obtain ⟨p1, p2, p3, p4, p5⟩ := LMem.put_spec (b := .dead) a4 (fun _ => Nat.zero_le _) hput
        refine ⟨⟨by omega, p5⟩, fun φ w s' x' hm hb hs hx => ?_⟩
        obtain ⟨g1, g2, new, g4, g5⟩ := elems_sim (P := P) hm.part he hx
        cases hs with
        | sdead _ _ _ _ _ cap' a hl =>
          have := hm.dead b hl
          rw [hc0] at this; cases this
        | szero _ _ _ o' l hl =>
          subst hes'
          have hold0 : old = [] := by
            unfold lrow at hold
            simp at hold
            exact hold
          subst hold0
          have r1 : ∀ W : World, W.heap = w.heap → (loadCells ⟨l.b, o', none⟩ (0 * ie.size)).run P W = .ok #[] W := fun W _ => by rw [Nat.zero_mul]; rfl
          obtain ⟨c', hc1, hrun⟩ := run_append_grows (ty := ty) (base := some ⟨l.b, o', none⟩) (n := 0) (cp := 0) (old := #[]) w ht hu hd hie hz k3 g1 (by omega) (by omega) r1 g4
          obtain ⟨φ', hφ', q1, q2, q3, q4⟩ := grown_sim (old := []) (o := #[]) (len := 0) (e := e) hw hm hb ha .nil g5 (by simp) g2 k4' hc1
          refine ⟨_, _, kill φ' b, hrun, ⟨q1.ext.trans kill_ext, fun id l' hl' => ?_, fun id hid h0 => ?_, q1.fr⟩, q2.mono kill_ext, kill_MR q3 p3 p4, fun id hid => ?_⟩
          · have : id ≠ b := fun h => by rw [h, kill_same] at hl'; cases hl'
            rw [kill_other this] at hl'
            exact q1.new id l' hl'
          · have : id ≠ b := fun h => by rw [h, hl] at h0; cases h0
            rw [kill_other this]; exact q1.un id hid h0
          · rw [p1]
            by_cases he' : id = b
            · omega
            · rw [kill_other he'] at hid; exact q4 id hid
        | slice _ _ _ _ _ cap' l hl hlen hcap hex hsz =>
          subst hes'
          obtain ⟨B, hB, hbr⟩ := hm.live b l hl
          rw [hc0] at hB; cases hB
          obtain ⟨o, r1, r2, r3⟩ := row_sim (P := P) (BR.rd (.inl hbr)) hold
          have hne : m.next ≠ b := by omega
          by_cases hin : len + k ≤ cap'
          · -- in place
            obtain ⟨c', e', f1, f2, f3, f4⟩ := hbr
            have hcs : c'.toList.length = l.sz := by simpa using f2
            have hbound := hsz ie.size rfl
            have hmul : (len + k) * ie.size ≤ cap' * ie.size := Nat.mul_le_mul_right _ hin
            have hnl := g5.length
            have hadd : (len + k) * ie.size = len * ie.size + k * ie.size := Nat.add_mul _ _ _
            have hst := run_storeCells_at (P := P) l.b (l.sh + off + len * ie.size) e' new.toList 0 c' w f1 (by omega) (fun v hv' => by
              obtain ⟨x, hx', hxv⟩ := g5.mem v hv'
              rw [hxv.oneCell]; exact List.all_eq_true.1 k5 x hx')
            have hrun := run_append_fits (ty := ty) (a := ⟨l.b, l.sh + off, none⟩) w _ ht hu hd hie g1 hin (g4 w rfl) (by rw [addr_add]; exact hst)
            have hnx : φ m.next = none := hb.none (Nat.le_refl _)
            have hknx : kill φ b m.next = none := by rw [kill_other hne]; exact hnx
            have hMR0 : MR (kill φ b) (fun id => if id = b then some .dead else m.get id) w := kill_MR hm (by simp) (fun id hid => by simp [hid])
            have hoth : ∀ id l', kill φ b id = some (some l') → l'.b ≠ l.b := by
              intro id l' hl' heq
              have hib : id ≠ b := fun h => by rw [h, kill_same] at hl'; cases hl'
              rw [kill_other hib] at hl'
              exact hib (hm.inj id b l' l hl' hl heq)
            have hold' : old = (c0.drop off).take (len * ie.size) := by
              unfold lrow at hold
              cases hbq : Nat.beq ((c0.drop off).take (len * ie.size)).length (len * ie.size) with
              | false => simp only [hbq, cond_false] at hold; cases hold
              | true => simp only [hbq, cond_true, Option.some.injEq] at hold; exact hold.symm
            refine ⟨_, _, ins (kill φ b) m.next ⟨l.b, l.sh + off, l.sz⟩, hrun, ⟨kill_ext.trans (ins_ext hknx), fun id l' hl' => ?_, fun id hid h0 => ?_, ?_⟩, ?_, ?_, fun id hid => ?_⟩
            · by_cases hid : id = m.next
              · subst hid; rw [ins_same] at hl'; cases hl'; exact .inl ⟨b, l, hl, rfl⟩
              · rw [ins_other hid] at hl'
                have hib : id ≠ b := fun h => by rw [h, kill_same] at hl'; cases hl'
                rw [kill_other hib] at hl'
                exact .inl ⟨id, l', hl', rfl⟩
            · have hib : id ≠ b := fun h => by rw [h, hl] at h0; cases h0
              rw [ins_other (by omega), kill_other hib]; exact h0
            · exact ⟨rfl, rfl, rfl, by simp, fun q _ hq => setRow_other w l.b q _ fun he' => hq b l hl he'.symm⟩
            · exact .slice m.next 0 (some ie.size) (len + k) (len + k) cap' ⟨l.b, l.sh + off, l.sz⟩ (ins_same _ _ _) (Nat.le_refl _) hin (fun h => by cases h) (fun e'' he'' => by cases he''; exact hbound)
            · refine hMR0.insert hknx hoth (by rw [p4 m.next hne]; exact a2) (fun j hj _ => ?_) (fun id l' hl' => setRow_other w l.b _ _ (hoth id l' hl')) ?_
              · by_cases hjb : j = b
                · subst hjb; simp [p3]
                · simp only [hjb, if_false]; rw [p4 j hjb, a3 j hj]
              · have hlen' : (old ++ vs).length = len * ie.size + k * ie.size := by simp [r3, g2]
                refine ⟨_, e', setRow_heap w l.b c' _ e' _ f1, ?_, ?_, fun i v hi => ?_⟩
                · show (splice c'.toList (l.sh + off + len * ie.size + 0) new.toList).length = l.sz
                  rw [splice_length _ _ _ (by omega)]; exact hcs
                · rw [hlen']; show l.sh + off + (len * ie.size + k * ie.size) ≤ l.sz; omega
                · rw [mk_get, splice_get _ _ _ (by omega)]
                  show ∃ v', (if l.sh + off + len * ie.size + 0 ≤ l.sh + off + i ∧ l.sh + off + i < l.sh + off + len * ie.size + 0 + new.toList.length then new.toList[l.sh + off + i - (l.sh + off + len * ie.size + 0)]? else c'.toList[l.sh + off + i]?) = some v' ∧ _
                  by_cases hi2 : i < len * ie.size
                  · rw [List.getElem?_append_left (by omega), hold', List.getElem?_take_of_lt hi2, List.getElem?_drop] at hi
                    rw [if_neg (by omega)]
                    obtain ⟨v', w1, w2⟩ := f4 _ v hi
                    exact ⟨v', by rw [Nat.add_assoc]; simpa using w1, (w2.mono kill_ext).mono (ins_ext hknx)⟩
                  · have hilt : i < len * ie.size + k * ie.size := by
                      have := (List.getElem?_eq_some_iff.1 hi).1
                      omega
                    rw [List.getElem?_append_right (by omega), r3] at hi
                    rw [if_pos (by omega), show l.sh + off + i - (l.sh + off + len * ie.size + 0) = i - len * ie.size by omega]
                    obtain ⟨v', w1, w2⟩ := g5.get hi
                    exact ⟨v', w1, (w2.mono kill_ext).mono (ins_ext hknx)⟩
            · rw [p1, a1]
              by_cases hid' : id = m.next
              · omega
              · rw [ins_other hid'] at hid
                by_cases hib : id = b
                · omega
                · rw [kill_other hib] at hid; have := hb id hid; omega
          · -- made anew
            obtain ⟨c', hc1, hrun⟩ := run_append_grows (ty := ty) (base := some ⟨l.b, l.sh + off, none⟩) (n := len) (cp := cap') (old := o) w ht hu hd hie hz k3 g1 (by omega) (by omega) r1 g4
            obtain ⟨φ', hφ', q1, q2, q3, q4⟩ := grown_sim (e := e) hw hm hb ha r2 g5 r3 g2 k4' hc1
            refine ⟨_, _, kill φ' b, hrun, ⟨q1.ext.trans kill_ext, fun id l' hl' => ?_, fun id hid h0 => ?_, q1.fr⟩, q2.mono kill_ext, kill_MR q3 p3 p4, fun id hid => ?_⟩
            · have : id ≠ b := fun h => by rw [h, kill_same] at hl'; cases hl'
              rw [kill_other this] at hl'
              exact q1.new id l' hl'
            · have : id ≠ b := fun h => by rw [h, hl] at h0; cases h0
              rw [kill_other this]; exact q1.un id hid h0
            · rw [p1]
              by_cases he' : id = b
              · omega
              · rw [kill_other he'] at hid; exact q4 id hid
  · cases h
end
end Go.Eng
