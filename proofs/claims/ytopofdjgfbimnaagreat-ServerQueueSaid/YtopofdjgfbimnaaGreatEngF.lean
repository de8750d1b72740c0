/- The engine's quiet operations are those of the model: slices, maps, built values; the whole. -/
import Derived.Test.YtopofdjgfbimnaaGreatEngE
namespace Go.Eng
variable [SymV] [SymT]
section
variable {P : Program}

theorem bound_sim {φ : Phi} {y y' k : Nat} {v v' : Value} {c : BoundsCode} (w : World) (h : lbound y v = some k) (hy : y ≤ y') (hv : VR φ v v') :
    (Instr.sliceBound v' y' c).run P w = .ok k w ∧ k ≤ y := by
  have _s := SymT.tab
  have _s := SymT.tab
  cases hv <;> simp only [lbound] at h <;> try (cases h; done)
  rename_i kd n
  cases hc : (decide (0 ≤ n) && decide (n ≤ (y : Int))) with
  | false => rw [hc] at h; cases h
  | true =>
    rw [hc] at h
    simp only [cond_true, Option.some.injEq] at h
    rw [Bool.and_eq_true, decide_eq_true_eq, decide_eq_true_eq] at hc
    have h1 : 0 ≤ n ∧ n ≤ (y' : Int) := ⟨hc.1, by omega⟩
    refine ⟨?_, by omega⟩
    simp [Instr.sliceBound, asIntOf, h1, h]

inductive VRO (φ : Phi) : Option Value → Option Value → Prop where
  | none : VRO φ none none
  | some (x y : Value) : VR φ x y → VRO φ (some x) (some y)

theorem bounds_sim {φ : Phi} {isS : Bool} {len most most' l h : Nat} {low high low' high' : Option Value} (w : World) (hb : lbounds len most low high = some (l, h)) (hm : most ≤ most') (hlen : len ≤ most)
    (h1 : VRO φ low low') (h2 : VRO φ high high') : (Instr.sliceBounds isS len most' low' high' none).run P w = .ok (l, h, most') w ∧ l ≤ h ∧ h ≤ most := by
  unfold lbounds at hb
  have hh : ∀ h0, (match high with | some v => lbound most v | none => some len) = some h0 →
      ∀ c : BoundsCode, (match high', (none : Option Value) with
        | some v, some _ => Instr.sliceBound v most' .slice3B
        | some v, none => Instr.sliceBound v most' c
        | none, none => pure len
        | none, some _ => stuck "Slice: max without high" : Sem Nat).run P w = .ok h0 w ∧ h0 ≤ most := by
    intro h0 e c
    cases h2 with
    | none => simp at e; subst e; exact ⟨rfl, hlen⟩
    | some x y hxy => exact bound_sim w e hm hxy
  split at hb
  · cases hb
  · rename_i h0 e0
    obtain ⟨g1, g2⟩ := hh h0 e0 (if isS then .sliceAcap else .sliceAlen)
    split at hb
    · cases hb
    · rename_i l0 e1
      cases hb
      have g3 : (match low' with
        | some v => Instr.sliceBound v h .sliceB
        | none => pure 0 : Sem Nat).run P w = .ok l w ∧ l ≤ h := by
        cases h1 with
        | none => simp at e1; subst e1; exact ⟨rfl, Nat.zero_le _⟩
        | some x y hxy => exact bound_sim w e1 (Nat.le_refl _) hxy
      refine ⟨?_, g3.2, g2⟩
      simp only [Instr.sliceBounds, Sem.run_bind, Sem.run_pure, Result.andThen_ok]
      cases high' <;> cases low' <;> simp_all

theorem extract_bytes (s : ByteArray) (l h : Nat) (hl : l ≤ h) : s.extract l h = ⟨⟨(s.data.toList.drop l).take (h - l)⟩⟩ := by
  have _s := SymT.tab
  apply ByteArray.ext
  apply Array.ext'
  rw [ByteArray.data_extract]
  have := extract_list' s.data l (h - l)
  rw [show l + (h - l) = h by omega] at this
  exact this
where
  extract_list' (c : Array UInt8) (a n : Nat) : (c.extract a (a + n)).toList = (c.toList.drop a).take n := by
    simp [List.extract_eq_take_drop]

theorem slice_sim {φ : Phi} {t : TypeId} {x x' v : Value} {lo hi mx lo' hi' mx' : Option Value} (w : World) (h : lslice P t x lo hi mx = some v)
    (hx : VR φ x x') (h1 : VRO φ lo lo') (h2 : VRO φ hi hi') (h3 : VRO φ mx mx') : ∃ v', (Instr.sliceAt t x' lo' hi' mx').run P w = .ok v' w ∧ VR φ v v' := by
  unfold lslice at h
  split at h
  · rename_i s ht
    cases h3; cases hx
    split at h
    · rename_i l hh hb
      cases h
      obtain ⟨g1, g2, g3⟩ := bounds_sim (P := P) (isS := false) w hb (Nat.le_refl _) (Nat.le_refl _) h1 h2
      refine ⟨_, ?_, .string _⟩
      simp only [Array.length_toList] at g1
      have g1' : (Instr.sliceBounds false s.size s.size lo' hi' none).run P w = .ok (l, hh, s.size) w := g1
      simp [Instr.sliceAt, run_underlying ht, Instr.slice, g1', extract_bytes s l hh g2]
    · cases h
  · rename_i e ht
    cases h3; cases hx
    split at h
    · rename_i l hh hb
      obtain ⟨g1, g2, g3⟩ := bounds_sim (P := P) (isS := true) w hb (Nat.le_refl _) (Nat.le_refl _) h1 h2
      cases hie : P.info? e with
      | none => simp [hie] at h
      | some ie =>
        simp only [hie, Option.some.injEq] at h
        subst h
        refine ⟨.slice none (hh - l) (0 - l), ?_, .snil _ _⟩
        simp only [Instr.sliceAt, Sem.run_bind, run_underlying ht, Result.andThen_ok, Instr.slice, g1, run_sizeOf' hie, Sem.run_pure]
        split <;> rfl
    · cases h
  · rename_i e b off sp len cap ht
    cases h3
    split at h
    · rename_i l hh ie hb he
      cases hs : spOK ie.size sp with
      | false => simp [hs] at h
      | true =>
        simp only [hs, Bool.not_true, cond_false] at h
        cases hx with
        | slice _ _ _ _ _ cap' loc hl hlen hcap hex hsz =>
          obtain ⟨g1, g2, g3⟩ := bounds_sim (P := P) (isS := true) w hb hcap hlen h1 h2
          have hrun : (Instr.sliceAt t (.slice (some ⟨loc.b, loc.sh + off, none⟩) len cap') lo' hi' none).run P w =
              .ok (.slice (some (if cap' = l then ⟨loc.b, loc.sh + off, none⟩ else ⟨loc.b, loc.sh + off + l * ie.size, none⟩)) (hh - l) (cap' - l)) w := by
            simp only [Instr.sliceAt, Sem.run_bind, run_underlying ht, Result.andThen_ok, Instr.slice, g1, run_sizeOf' he, Sem.run_pure]
            split <;> simp_all [addr_add]
          cases hlt : Nat.blt l cap with
          | true =>
            simp only [hlt, cond_true, Option.some.injEq] at h
            subst h
            have hlt' := blt_lt hlt
            refine ⟨_, hrun, ?_⟩
            rw [if_neg (by omega), Nat.add_assoc]
            refine .slice b (off + l * ie.size) sp (hh - l) (cap - l) (cap' - l) loc hl (by omega) (by omega) (fun hsp => by rw [hex hsp]) fun e' he' => ?_
            have := hsz e' he'
            subst he'
            simp only [spOK, Bool.and_eq_true] at hs
            have hee := Nat.eq_of_beq_eq_true hs.1
            subst hee
            have : l * ie.size + (cap' - l) * ie.size = cap' * ie.size := by
              rw [← Nat.add_mul]; congr 1; omega
            omega
          | false =>
            simp only [hlt, cond_false] at h
            have hge : cap ≤ l := by
              rcases Nat.lt_or_ge l cap with h' | h'
              · rw [blt_true h'] at hlt; cases hlt
              · exact h'
            have hle : l = cap := by omega
            cases hz : (Nat.beq l 0 || sp.isNone) with
            | false =>
              simp only [hz, cond_false, Option.some.injEq] at h
              subst h
              refine ⟨_, hrun, ?_⟩
              have h0 : hh - l = 0 := by omega
              rw [h0]
              obtain ⟨e0, rfl⟩ : ∃ e0, sp = some e0 := by
                cases sp with
                | none => simp at hz
                | some e0 => exact ⟨e0, rfl⟩
              by_cases hcl : cap' = l
              · rw [if_pos hcl, show cap' - l = 0 by omega]
                exact .szero b _ e0 _ loc hl
              · rw [if_neg hcl, Nat.add_assoc]
                refine .slice b (off + l * ie.size) (some e0) 0 0 (cap' - l) loc hl (Nat.le_refl _) (Nat.zero_le _) (fun hsp => by cases hsp) fun e' he' => ?_
                have := hsz e' he'
                cases he'
                simp only [spOK, Bool.and_eq_true] at hs
                have hee := Nat.eq_of_beq_eq_true hs.1
                subst hee
                have : l * ie.size + (cap' - l) * ie.size = cap' * ie.size := by
                  rw [← Nat.add_mul]; congr 1; omega
                omega
            | true =>
              simp only [hz, cond_true, Option.some.injEq] at h
              subst h
              refine ⟨_, hrun, ?_⟩
              have haddr : (if cap' = l then (⟨loc.b, loc.sh + off, none⟩ : Addr) else ⟨loc.b, loc.sh + off + l * ie.size, none⟩) = ⟨loc.b, loc.sh + off, none⟩ := by
                split
                · rfl
                · rename_i hne
                  rw [Bool.or_eq_true] at hz
                  rcases hz with hz | hz
                  · have := Nat.eq_of_beq_eq_true hz; subst this; simp
                  · have := hex (by simpa using hz); omega
              rw [haddr]
              refine .slice b off sp (hh - l) (cap - l) (cap' - l) loc hl (by omega) (by omega) (fun hsp => by rw [hex hsp]) fun e' he' => ?_
              have := hsz e' he'
              have h5 : (cap' - l) * e' ≤ cap' * e' := Nat.mul_le_mul_right _ (by omega)
              omega
        | sdead _ _ _ _ _ cap' a hl hlen hcap hex =>
          obtain ⟨g1, g2, g3⟩ := bounds_sim (P := P) (isS := true) w hb hcap hlen h1 h2
          have hrun : (Instr.sliceAt t (.slice (some a) len cap') lo' hi' none).run P w =
              .ok (.slice (some (if cap' = l then a else a.add (l * ie.size))) (hh - l) (cap' - l)) w := by
            simp only [Instr.sliceAt, Sem.run_bind, run_underlying ht, Result.andThen_ok, Instr.slice, g1, run_sizeOf' he, Sem.run_pure]
            split <;> simp_all
          cases hlt : Nat.blt l cap with
          | true =>
            simp only [hlt, cond_true, Option.some.injEq] at h
            subst h
            exact ⟨_, hrun, .sdead b _ sp (hh - l) (cap - l) (cap' - l) _ hl (by omega) (by omega) (fun hsp => by rw [hex hsp])⟩
          | false =>
            simp only [hlt, cond_false] at h
            have hge : cap ≤ l := by
              rcases Nat.lt_or_ge l cap with h' | h'
              · rw [blt_true h'] at hlt; cases hlt
              · exact h'
            cases hz : (Nat.beq l 0 || sp.isNone) with
            | false =>
              simp only [hz, cond_false, Option.some.injEq] at h
              subst h
              refine ⟨_, hrun, ?_⟩
              have h0 : hh - l = 0 := by omega
              rw [h0]
              exact .sdead b _ sp 0 0 (cap' - l) _ hl (Nat.le_refl _) (Nat.zero_le _) (fun hsp => by rw [hsp] at hz; simp at hz)
            | true =>
              simp only [hz, cond_true, Option.some.injEq] at h
              subst h
              exact ⟨_, hrun, .sdead b _ sp (hh - l) (cap - l) (cap' - l) _ hl (by omega) (by omega) (fun hsp => by rw [hex hsp])⟩
        | szero _ _ e0 o loc hl =>
          obtain ⟨g1, g2, g3⟩ := bounds_sim (P := P) (isS := true) w hb (Nat.le_refl 0) (Nat.le_refl 0) h1 h2
          have hl0 : l = 0 := by omega
          have hh0 : hh = 0 := by omega
          subst hl0; subst hh0
          have hrun : (Instr.sliceAt t (.slice (some ⟨loc.b, o, none⟩) 0 0) lo' hi' none).run P w = .ok (.slice (some ⟨loc.b, o, none⟩) 0 0) w := by
            simp only [Instr.sliceAt, Sem.run_bind, run_underlying ht, Result.andThen_ok, Instr.slice, g1, run_sizeOf' he, Sem.run_pure]
            simp
          have h' : (Value.slice (some ⟨b, off, some e0⟩) 0 0) = v := by simpa [Nat.blt] using h
          subst h'
          exact ⟨_, hrun, .szero b off e0 o loc hl⟩
    · cases h
  · rename_i e b off sp len cap mv ht
    cases h3 with
    | some _ mv' hmv =>
    cases hzz : isZ2 sp cap with
    | true => simp [hzz] at h
    | false =>
    simp only [hzz, cond_false] at h
    split at h
    · rename_i m hmb
      split at h
      · rename_i hv
        cases h2 with
        | some _ hv' hhv =>
        split at h
        · rename_i hh ie hhb he
          split at h
          · rename_i l hlb
            cases h
            have gl : ∀ c : BoundsCode, (match lo' with
                | some v => Instr.sliceBound v hh c
                | none => pure 0 : Sem Nat).run P w = .ok l w ∧ l ≤ hh := by
              intro c
              cases h1 with
              | none => simp at hlb; subst hlb; exact ⟨rfl, Nat.zero_le _⟩
              | some x y hxy => exact bound_sim w hlb (Nat.le_refl _) hxy
            have gb : ∀ n cp, cap ≤ cp → (Instr.sliceBounds true n cp lo' (some hv') (some mv')).run P w = .ok (l, hh, m) w := by
              intro n cp hcp
              simp only [Instr.sliceBounds, Sem.run_bind, (bound_sim (P := P) w hmb hcp hmv).1, Result.andThen_ok, (bound_sim (P := P) w hhb (Nat.le_refl _) hhv).1]
              have := (gl .slice3C).1
              cases lo' <;> simp_all
            have hlm : l ≤ hh ∧ hh ≤ m := ⟨(gl .slice3C).2, (bound_sim (P := P) (c := .slice3C) w hhb (Nat.le_refl _) hhv).2⟩
            cases hx with
            | slice _ _ _ _ _ cap' loc hl hlen hcap hex hsz =>
              have hrun : (Instr.sliceAt t (.slice (some ⟨loc.b, loc.sh + off, none⟩) len cap') lo' (some hv') (some mv')).run P w =
                  .ok (.slice (some ⟨loc.b, loc.sh + (bif Nat.beq m l then off else off + l * ie.size), none⟩) (hh - l) (m - l)) w := by
                simp only [Instr.sliceAt, Sem.run_bind, run_underlying ht, Result.andThen_ok, Instr.slice, gb len cap' hcap, run_sizeOf' he, Sem.run_pure]
                cases hml : Nat.beq m l with
                | true => have := Nat.eq_of_beq_eq_true hml; simp [this]
                | false =>
                  have : ¬ m = l := fun h0 => by rw [h0, Nat.beq_refl] at hml; cases hml
                  simp [this, addr_add, Nat.add_assoc]
              exact ⟨_, hrun, .slice b _ none (hh - l) (m - l) (m - l) loc hl (by omega) (by omega) (fun _ => rfl) (fun e' he' => by cases he')⟩
            | sdead _ _ _ _ _ cap' a hl hlen hcap hex =>
              have hrun : ∃ a', (Instr.sliceAt t (.slice (some a) len cap') lo' (some hv') (some mv')).run P w = .ok (.slice (some a') (hh - l) (m - l)) w := by
                simp only [Instr.sliceAt, Sem.run_bind, run_underlying ht, Result.andThen_ok, Instr.slice, gb len cap' hcap, run_sizeOf' he, Sem.run_pure]
                split
                · exact ⟨_, rfl⟩
                · exact ⟨_, rfl⟩
              obtain ⟨a', hrun⟩ := hrun
              exact ⟨_, hrun, .sdead b _ none (hh - l) (m - l) (m - l) _ hl (by omega) (by omega) (fun _ => rfl)⟩
            | szero => simp [isZ2] at hzz
          · cases h
        · cases h
      · cases h
    · cases h
  · rename_i n e b off ht
    cases h3
    split at h
    · rename_i l hh ie hb he
      cases h
      obtain ⟨g1, g2, g3⟩ := bounds_sim (P := P) (isS := false) w hb (Nat.le_refl _) (Nat.le_refl _) h1 h2
      cases hx with
      | ptr _ _ loc hl =>
        have hrun : (Instr.sliceAt t (.pointer (some ⟨loc.b, loc.sh + off, none⟩)) lo' hi' none).run P w =
            .ok (.slice (some ⟨loc.b, loc.sh + (bif Nat.beq n l then off else off + l * ie.size), none⟩) (hh - l) (n - l)) w := by
          simp only [Instr.sliceAt, Sem.run_bind, run_underlying ht, Result.andThen_ok, Instr.sureAddr, g1, run_sizeOf' he, Sem.run_pure]
          cases hml : Nat.beq n l with
          | true => have := Nat.eq_of_beq_eq_true hml; simp [this]
          | false =>
            have : ¬ n = l := fun h0 => by rw [h0, Nat.beq_refl] at hml; cases hml
            simp [this, addr_add, Nat.add_assoc]
        exact ⟨_, hrun, .slice b _ none (hh - l) (n - l) (n - l) loc hl (by omega) (by omega) (fun _ => rfl) (fun e' he' => by cases he')⟩
      | pdead _ _ _ a hl =>
        have hrun : ∃ a', (Instr.sliceAt t (.pointer (some a)) lo' hi' none).run P w = .ok (.slice (some a') (hh - l) (n - l)) w := by
          simp only [Instr.sliceAt, Sem.run_bind, run_underlying ht, Result.andThen_ok, Instr.sureAddr, g1, run_sizeOf' he, Sem.run_pure]
          exact ⟨_, rfl⟩
        obtain ⟨a', hrun⟩ := hrun
        exact ⟨_, hrun, .sdead b _ none (hh - l) (n - l) (n - l) _ hl (by omega) (by omega) (fun _ => rfl)⟩
    · cases h
  · cases h

/- maps -/
theorem key_sim {kd : TypeDesc} {k e : Value} {r : Bool} (h : lkey kd k e = some r) : Instr.sameNow kd k e = some r := by
  have _s := SymT.tab
  unfold lkey at h
  split at h
  · exact h
  · cases h; simp [Instr.sameNow, beq_toListBytes, ByteArray.toList_eq]
  · cases h

theorem find_sim {φ : Phi} {kd : TypeDesc} {k : Value} : ∀ {es es' : List MapEntry} {i : Nat} {r : Option (Nat × Value)}, ERow φ es es' → lfind kd k es i = some r →
    ∃ r', Instr.findNow kd k es' i = some r' ∧ (match r, r' with
      | some (j, v), some (j', v') => j = j' ∧ i ≤ j ∧ j - i < es.length ∧ VR φ v v'
      | none, none => True
      | _, _ => False)
  | [], es', i, r, he, h => by
    have : es' = [] := by have := he.len; simp at this; exact List.eq_nil_of_length_eq_zero this.symm
    subst this
    simp [lfind] at h; subst h
    exact ⟨none, rfl, trivial⟩
  | e :: es, es', i, r, he, h => by
    obtain ⟨e', h1, h2, h3, h4, h5⟩ := he.at_ 0 e (by simp)
    cases es' with
    | nil => simp at h1
    | cons x xs =>
      simp at h1; subst h1
      have her : ERow φ es xs := ⟨by simpa using he.len, fun j a ha => by simpa using he.at_ (j + 1) a (by simpa using ha)⟩
      unfold lfind at h
      split at h
      · rename_i hk
        cases h
        refine ⟨some (i, x.val), ?_, rfl, Nat.le_refl _, by simp, h5⟩
        simp [Instr.findNow, h2, key_sim hk]
      · rename_i hk
        obtain ⟨r', g1, g2⟩ := find_sim her h
        refine ⟨r', ?_, ?_⟩
        · simp [Instr.findNow, h2, key_sim hk, g1]
        · cases r with
          | none => cases r' with
            | none => trivial
            | some p => exact g2.elim
          | some p => cases r' with
            | none => exact g2.elim
            | some q =>
              obtain ⟨j, v⟩ := p
              obtain ⟨j', v'⟩ := q
              obtain ⟨a1, a2, a3, a4⟩ := g2
              exact ⟨a1, by omega, by simp; omega, a4⟩
      · cases h

theorem run_getObj_map {w : World} {b : Nat} {es : Array MapEntry} {ck : Nat} (h : w.heap[b]? = some (.map es ck)) : (getObj b).run P w = .ok (.map es ck) w := by
  have _s := SymT.tab
  simp [getObj, Sem.run, h]

theorem run_checkKey {t : TypeId} {kd : TypeDesc} (h : P.underlying t = some kd) (hk : isKeyD kd = true) (e : Bool) (n : Nat) (v : Value) (w : World) :
    (Instr.checkKey e (n + 1) t v).run P w = .ok () w := by
  have _s := SymT.tab
  cases kd <;> first
    | (simp [isKeyD] at hk; done)
    | (simp [Instr.checkKey, run_underlying h])

theorem vr_key {φ : Phi} {k k' : Value} (hk : isKey k = true) (hv : VR φ k k') : k' = k := by
  have _s := SymT.tab
  cases hv <;> first | rfl | (simp [isKey] at hk)

theorem map_block {φ : Phi} {g : Nat → Option LB} {w : World} {r : Nat} {x' : Value} {es : List MapEntry} {ck : Nat} (hm : MRp φ g w) (hx : VR φ (.map (some r)) x') (hg : g r = some (.map es ck)) :
    ∃ l es', φ r = some (some l) ∧ x' = .map (some l.b) ∧ w.heap[l.b]? = some (.map es' ck) ∧ ERow φ es es'.toList := by
  have _s := SymT.tab
  cases hx with
  | map _ l hl =>
    obtain ⟨es', h1, h2⟩ := (hm r _ hg).1 l hl
    exact ⟨l, es', hl, rfl, h1, h2⟩
  | mdead _ r' hl => cases (hm r _ hg).2 hl

theorem run_findKey {kt : TypeId} {kd : TypeDesc} {k : Value} {es : List MapEntry} {r : Option (Nat × Value)} (h : P.underlying kt = some kd) (hf : Instr.findNow kd k es 0 = some r) (w : World) :
    (Instr.findKey kt k es).run P w = .ok r w := by
  have _s := SymT.tab
  simp [Instr.findKey, run_underlying h, hf]

theorem lookup_sim {φ : Phi} {g : Nat → Option LB} {t : TypeId} {x x' i i' v : Value} {ok : Bool} {w : World} (hm : MRp φ g w) (h : llookup P g t x i ok = some v) (hx : VR φ x x') (hi : VR φ i i') :
    ∃ v', (Instr.lookup t x' i' ok).run P w = .ok v' w ∧ VR φ v v' := by
  unfold llookup at h
  split at h
  · rename_i kt et r ht
    split at h
    · rename_i es ck kd ie hg hkd hie
      cases hc : (isKeyD kd && isKey i) with
      | false => simp [hc] at h
      | true =>
        simp only [hc, cond_true] at h
        rw [Bool.and_eq_true] at hc
        obtain ⟨l, es', hl, rfl, hw, her⟩ := map_block hm hx hg
        have := vr_key hc.2 hi
        subst this
        split at h
        · rename_i j v0 _ hf
          cases h
          obtain ⟨r', g1, g2⟩ := find_sim her hf
          cases r' with
          | none => exact g2.elim
          | some q =>
            obtain ⟨j', v0'⟩ := q
            obtain ⟨_, _, _, g3⟩ := g2
            refine ⟨(if ok then .tuple #[v0', .bool true] else v0'), ?_, ?_⟩
            · simp [Instr.lookup, run_underlying ht, run_getObj_map hw, run_checkKey hkd hc.1, run_findKey hkd g1]
            · cases ok
              · exact g3
              · exact .tuple _ _ (.cons _ _ _ _ g3 (.cons _ _ _ _ (.bool true) .nil))
        · rename_i z hf hz
          obtain ⟨r', g1, g2⟩ := find_sim her hf
          cases r' with
          | some q => exact g2.elim
          | none =>
            cases hu : Nat.beq (ub z) 0 with
            | false => simp [hu] at h
            | true =>
              simp only [hu, cond_true, Option.some.injEq] at h
              subst h
              have hzz : VR φ z z := VR.refl 7 z (Nat.eq_of_beq_eq_true hu)
              refine ⟨(if ok then .tuple #[z, .bool false] else z), ?_, ?_⟩
              · simp [Instr.lookup, run_underlying ht, run_getObj_map hw, run_checkKey hkd hc.1, run_findKey hkd g1, run_zeroValue' hie hz]
              · cases ok
                · exact hzz
                · exact .tuple _ _ (.cons _ _ _ _ hzz (.cons _ _ _ _ (.bool false) .nil))
        · cases h
    · cases h
  · cases h

theorem len_sim {φ : Phi} {g : Nat → Option LB} {t : TypeId} {x x' v : Value} {w : World} {ty : TypeId} (hm : MRp φ g w) (h : llen P g t x = some v) (hx : VR φ x x') :
    ∃ v', (Builtin.len_ #[t] ty #[x']).run P w = .ok v' w ∧ VR φ v v' := by
  unfold llen at h
  split at h
  · rename_i s ht
    cases h; cases hx
    exact ⟨_, by simp [Builtin.len_, run_underlying ht]; rfl, .int _ _⟩
  · rename_i e a n c ht
    cases h
    refine ⟨goInt n, ?_, .int _ _⟩
    cases hx <;> simp [Builtin.len_, run_underlying ht]
  · rename_i n e ht
    cases h
    refine ⟨goInt n, ?_, .int _ _⟩
    cases hx <;> simp [Builtin.len_, run_underlying ht]
  · rename_i ht
    cases h; cases hx
    exact ⟨_, by simp [Builtin.len_, run_underlying ht]; rfl, .int _ _⟩
  · rename_i kt et r ht
    split at h
    · rename_i es ck hg
      cases h
      obtain ⟨l, es', hl, rfl, hw, her⟩ := map_block hm hx hg
      refine ⟨_, ?_, .int _ _⟩
      have := her.len
      simp [Builtin.len_, run_underlying ht, run_getObj_map hw]
      simp at this
      rw [← this]; rfl
    · cases h
  · cases h

theorem max_sim {φ : Phi} : ∀ {vs vs' : List Value} {x x' v : Value} (w : World), lminmax true x vs = some v → VR φ x x' → VRL φ vs vs' → ∃ v', (vs'.foldlM Builtin.max2 x').run P w = .ok v' w ∧ VR φ v v'
  | [], _, x, x', v, w, h, hx, .nil => by
    have _s := SymT.tab
    have : lminmax true x [] = some x := by cases x <;> rfl
    rw [this] at h; cases h
    exact ⟨x', rfl, hx⟩
  | y :: vs, _, x, x', v, w, h, hx, .cons _ y' _ ys' hy hys => by
    cases x <;> cases y <;> simp only [lminmax] at h <;> first
      | (cases h; done)
      | skip
    rename_i k a k' b
    cases hx; cases hy
    obtain ⟨v', h1, h2⟩ := max_sim w h (.int k _) hys
    refine ⟨v', ?_, h2⟩
    simp only [List.foldlM_cons, Sem.run_bind]
    have : (Builtin.max2 (.int k a) (.int k' b)).run P w = .ok (.int k (if b > a then b else a)) w := rfl
    rw [this]
    simpa using h1

theorem min_sim {φ : Phi} : ∀ {vs vs' : List Value} {x x' v : Value} (w : World), lminmax false x vs = some v → VR φ x x' → VRL φ vs vs' → ∃ v', (vs'.foldlM Builtin.min2 x').run P w = .ok v' w ∧ VR φ v v'
  | [], _, x, x', v, w, h, hx, .nil => by
    have _s := SymT.tab
    have : lminmax false x [] = some x := by cases x <;> rfl
    rw [this] at h; cases h
    exact ⟨x', rfl, hx⟩
  | y :: vs, _, x, x', v, w, h, hx, .cons _ y' _ ys' hy hys => by
    cases x <;> cases y <;> simp only [lminmax] at h <;> first
      | (cases h; done)
      | skip
    rename_i k a k' b
    cases hx; cases hy
    obtain ⟨v', h1, h2⟩ := min_sim w h (.int k _) hys
    refine ⟨v', ?_, h2⟩
    simp only [List.foldlM_cons, Sem.run_bind]
    have : (Builtin.min2 (.int k a) (.int k' b)).run P w = .ok (.int k (if b < a then b else a)) w := rfl
    rw [this]
    simpa using h1

theorem assert_sim {φ : Phi} {x x' v : Value} {xt asserted : TypeId} {ok : Bool} (w : World) (h : lassert P x asserted ok = some v) (hx : VR φ x x') :
    ∃ v', (Instr.typeAssert x' xt asserted ok).run P w = .ok v' w ∧ VR φ v v' := by
  unfold lassert at h
  split at h
  · cases h
  · rename_i d t u hu hd
    cases hx with
    | iface _ _ u' hu' =>
    have hni : ∀ s, d = .interface s → False := fun s hs => by subst hs; exact hu s rfl
    split at h
    · rename_i he
      cases h
      subst he
      refine ⟨(if ok then .tuple #[u', .bool true] else u'), ?_, ?_⟩
      · cases d <;> first
          | exact (hni _ rfl).elim
          | simp [Instr.typeAssert, run_underlying hd]
      · cases ok
        · exact hu'
        · exact .tuple _ _ (.cons _ _ _ _ hu' (.cons _ _ _ _ (.bool true) .nil))
    · rename_i hne
      cases ok with
      | false => simp at h
      | true =>
        simp only [cond_true] at h
        split at h
        · rename_i i hi
          split at h
          · rename_i z hz
            cases hub : Nat.beq (ub z) 0 with
            | false => simp [hub] at h
            | true =>
              simp only [hub, cond_true, Option.some.injEq] at h
              subst h
              have hzz : VR φ z z := VR.refl 7 z (Nat.eq_of_beq_eq_true hub)
              refine ⟨.tuple #[z, .bool false], ?_, .tuple _ _ (.cons _ _ _ _ hzz (.cons _ _ _ _ (.bool false) .nil))⟩
              cases d <;> first
                | exact (hni _ rfl).elim
                | simp [Instr.typeAssert, run_underlying hd, hne, run_zeroValue' hi hz]
          · cases h
        · cases h
  · cases h

/- built values -/
theorem splice_get (c : List Value) (off : Nat) (vs : List Value) (h : off + vs.length ≤ c.length) (i : Nat) :
    (splice c off vs)[i]? = if off ≤ i ∧ i < off + vs.length then vs[i - off]? else c[i]? := by
  have _s := SymT.tab
  unfold splice
  by_cases h1 : i < off
  · rw [List.getElem?_append_left (by simp; omega), if_neg (by omega), List.getElem?_take_of_lt h1]
  · rw [List.getElem?_append_right (by simp; omega)]
    have ht : (c.take off).length = off := by simp; omega
    rw [ht]
    by_cases h2 : i < off + vs.length
    · rw [if_pos ⟨by omega, h2⟩, List.getElem?_append_left (by omega)]
    · rw [if_neg (by omega), List.getElem?_append_right (by omega), List.getElem?_drop]
      congr 1; omega

theorem splice_length (c : List Value) (off : Nat) (vs : List Value) (h : off + vs.length ≤ c.length) : (splice c off vs).length = c.length := by
  have _s := SymT.tab
  unfold splice; simp; omega

theorem foldl_set (off : Nat) : ∀ (vs : List Value) (k : Nat) (c : Array Value), off + k + vs.length ≤ c.size →
    ((vs.zipIdx k).foldl (fun cs (p : Value × Nat) => cs.setIfInBounds (off + p.2) p.1) c).toList = splice c.toList (off + k) vs
  | [], k, c, _ => by simp [splice]
  | v :: vs, k, c, h => by
    simp only [List.zipIdx_cons, List.foldl_cons]
    simp only [List.length_cons] at h
    rw [foldl_set off vs (k + 1) (c.setIfInBounds (off + k) v) (by simp; omega)]
    apply List.ext_getElem?
    intro i
    rw [splice_get _ _ _ (by simp; omega), splice_get _ _ _ (by simp; omega)]
    simp only [Array.toList_setIfInBounds, List.length_cons]
    by_cases h1 : i = off + k
    · subst h1
      rw [if_neg (by omega), if_pos (by omega), List.getElem?_set_self (by simp; omega)]
      simp
    · by_cases h2 : off + (k + 1) ≤ i ∧ i < off + (k + 1) + vs.length
      · rw [if_pos h2, if_pos (by omega), show i - (off + k) = (i - (off + (k + 1))) + 1 by omega]
        simp
      · rw [if_neg h2, if_neg (by omega), List.getElem?_set_ne (by omega)]

theorem VRL.splice {φ : Phi} {c c' vs vs' : List Value} (off : Nat) (hc : VRL φ c c') (hv : VRL φ vs vs') : VRL φ (splice c off vs) (splice c' off vs') := by
  have _s := SymT.tab
  unfold Go.Eng.splice
  rw [hv.length]
  exact (hc.take off).append (hv.append (hc.drop _))

inductive VRP (φ : Phi) : List (Nat × Value) → List (Nat × Value) → Prop where
  | nil : VRP φ [] []
  | cons (i : Nat) (x y : Value) (xs ys : List (Nat × Value)) : VR φ x y → VRP φ xs ys → VRP φ ((i, x) :: xs) ((i, y) :: ys)

theorem fill_sim {φ : Phi} {place : Nat → Option (Nat × Nat)} : ∀ {parts parts' : List (Nat × Value)} {c r : List Value} {c' : Array Value}, VRP φ parts parts' → VRL φ c c'.toList → lfill place c parts = some r →
    ∃ r', Instr.fill place c' parts' = some r' ∧ VRL φ r r'.toList
  | _, _, c, r, c', .nil, hc, h => by simp [lfill] at h; subst h; exact ⟨c', rfl, hc⟩
  | _, _, c, r, c', .cons i x y xs ys hxy hr, hc, h => by
    unfold lfill at h
    split at h
    · cases h
    · rename_i off size hp
      cases hq : (Nat.beq x.cells.toList.length size && Nat.ble (off + size) c.length) with
      | false => simp only [hq, cond_false] at h; cases h
      | true =>
        simp only [hq, cond_true] at h
        rw [Bool.and_eq_true] at hq
        have h1 := Nat.eq_of_beq_eq_true hq.1
        have h2 := Nat.le_of_ble_eq_true hq.2
        have hcells := hxy.cells
        have h3 := hcells.length
        have h4 := hc.length
        have hsz : y.cells.size = size := by rw [← Array.length_toList]; omega
        have hcs : c'.size = c.length := by rw [← Array.length_toList]; omega
        have hfold : (y.cells.zipIdx.foldl (fun cs (p : Value × Nat) => cs.setIfInBounds (off + p.2) p.1) c').toList = splice c'.toList off y.cells.toList := by
          have := foldl_set off y.cells.toList 0 c' (by simp; omega)
          rw [← Array.foldl_toList, Array.toList_zipIdx]
          simpa using this
        obtain ⟨r', g1, g2⟩ := fill_sim (c' := y.cells.zipIdx.foldl (fun cs (p : Value × Nat) => cs.setIfInBounds (off + p.2) p.1) c') hr (by rw [hfold]; exact hc.splice off hcells) h
        refine ⟨r', ?_, g2⟩
        unfold Instr.fill
        simp only [hp]
        rw [if_neg (by simp [hsz]; omega)]
        exact g1

theorem built_sim {φ : Phi} {t : TypeId} {parts parts' : List (Nat × Value)} {c : List Value} (h : lbuilt P t parts = some c) (hp : VRP φ parts parts') :
    ∃ c', P.built t parts' = some c' ∧ VRL φ c c'.toList := by
  unfold lbuilt at h
  split at h
  · rename_i it n e hi hu
    split at h
    · rename_i z ie hz hie
      cases hub : Nat.beq (ub z) 0 with
      | false => simp [hub] at h
      | true =>
        simp only [hub, cond_true] at h
        have hzz : VR φ z z := VR.refl 7 z (Nat.eq_of_beq_eq_true hub)
        obtain ⟨r', g1, g2⟩ := fill_sim hp hzz.cells h
        exact ⟨r', by simp [Program.built, hi, hu, hz, hie, g1], g2⟩
    · cases h
  · rename_i it fs hi hu
    split at h
    · rename_i z places hz hpl
      cases hub : Nat.beq (ub z) 0 with
      | false => simp [hub] at h
      | true =>
        simp only [hub, cond_true] at h
        have hzz : VR φ z z := VR.refl 7 z (Nat.eq_of_beq_eq_true hub)
        obtain ⟨r', g1, g2⟩ := fill_sim hp hzz.cells h
        refine ⟨r', ?_, g2⟩
        have hpl' : fs.toList.mapM (fun f => (P.info? f.type).map fun i => (f.offset, i.size)) = some places := hpl
        simp only [Program.built, hi, hu, hz, hpl']
        simpa using g1
    · cases h
  · cases h
end
end Go.Eng
