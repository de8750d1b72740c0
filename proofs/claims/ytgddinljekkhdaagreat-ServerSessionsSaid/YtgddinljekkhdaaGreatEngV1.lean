/- The engine: arguments that are data, opened. No condition. -/
import Derived.Test.YtgddinljekkhdaaGreatEngU5
import Derived.DataWitness
import Derived.ChangeArms
import Derived.DataReads
import Derived.WideShapes
import GoSem.ClaimJoined
set_option linter.unusedSimpArgs false
set_option linter.unusedVariables false
/- Where a slice lies: no further than its block goes. -/
namespace Go.Eng
theorem rowAt_le {p : Program} {fits : TypeId → Bool} : ∀ {d : Nat} {e : TypeId} {count off n : Nat}, rowAt p fits d e count off n = true → off ≤ count * p.cellsOf e
  | 0, _, _, _, _, h => by simp [rowAt] at h
  | d + 1, e, count, off, n, h => by
    unfold rowAt at h
    simp only at h
    split at h
    · cases h
    · rename_i hs
      have hd := Nat.div_add_mod off (p.cellsOf e)
      have hm := Nat.mod_lt off (Nat.pos_of_ne_zero hs)
      rw [Bool.or_eq_true] at h
      rcases h with h | h
      · simp only [Bool.and_eq_true, beq_iff_eq, decide_eq_true_eq] at h
        have : off / p.cellsOf e * p.cellsOf e ≤ count * p.cellsOf e := Nat.mul_le_mul_right _ (by omega)
        rw [Nat.mul_comm] at hd
        omega
      · rw [Bool.and_eq_true, decide_eq_true_eq] at h
        have : (off / p.cellsOf e + 1) * p.cellsOf e ≤ count * p.cellsOf e := Nat.mul_le_mul_right _ (by omega)
        rw [Nat.add_mul, Nat.one_mul] at this
        rw [Nat.mul_comm] at hd
        omega
theorem liesAt_le {p : Program} {e u : TypeId} {count off : Nat} : ∀ {d : Nat} {u : TypeId} {n : Nat}, liesAt p d e count off u n = true → off ≤ count * p.cellsOf e
  | 0, _, _, h => by simp [liesAt] at h
  | d + 1, u, n, h => by
    unfold liesAt at h
    rw [Bool.or_eq_true] at h
    rcases h with h | h
    · exact rowAt_le h
    · split at h
      · exact liesAt_le (u := u) h
      · cases h
end Go.Eng
namespace Go.Eng
/-- a slice's place in a world that holds it -/
theorem has_at {P : Program} {w : World} {r : Reach} {base : Nat} {a : Addr} {e : TypeId} {n : Nat} (h : w.has P r base a e n) : a.spot = none ∧ ∃ c t m, w.heap[a.block]? = some (.cells c t m) ∧ a.off ≤ c.size := by
  obtain ⟨_, h1, row, cells, h2, h3⟩ := h
  refine ⟨h1, ?_⟩
  unfold World.shape? at h2
  split at h2
  · rename_i c t m hb
    cases h2
    refine ⟨c, _, m, hb, ?_⟩
    have h4 := liesAt_le (u := e) h3
    exact Nat.le_trans h4 (Nat.div_mul_le_self _ _)
  · cases h2
end Go.Eng
/- Arguments that are data: what lies in a world, as deep values. -/
namespace Go.Eng
open Go.RowKit

/-- cells of data: truth values, numbers, strings, lists of rows -/
inductive CT where
  | b
  | i (k : IntKind)
  | s
  | l (row : List CT)

/-- a deep cell of a kind -/
inductive IsD : CT → Value → Prop where
  | b (x : Bool) : IsD .b (.bool x)
  | i (k : IntKind) (n : Int) : (Lit.int k n).wf = true → IsD (.i k) (.int k n)
  | s (x : ByteArray) : x.size ≤ reachBytes → IsD .s (.string x)
  | n (row : List CT) : IsD (.l row) (.slice none 0 0)
  | l (row : List CT) (rs : List (List Value)) : rs.length ≤ maxLen → (∀ r ∈ rs, r.length = row.length) → (∀ r ∈ rs, ∀ (j : Nat) (k : CT) (d : Value), row[j]? = some k → r[j]? = some d → IsD k d) → IsD (.l row) (lv rs)

/-- cells of kinds, and what they stand for -/
structure Reads (w : World) (ks : List CT) (cs ds : List Value) : Prop where
  len : cs.length = ks.length
  len2 : ds.length = ks.length
  den : ∀ (j : Nat) (v d : Value), cs[j]? = some v → ds[j]? = some d → DenF (phiW w).fz v d
  typ : ∀ (j : Nat) (k : CT) (d : Value), ks[j]? = some k → ds[j]? = some d → IsD k d

theorem Reads.app {w : World} {ks ks' : List CT} {cs cs' ds ds' : List Value} (h : Reads w ks cs ds) (h' : Reads w ks' cs' ds') : Reads w (ks ++ ks') (cs ++ cs') (ds ++ ds') := by
  have l1 := h.len; have l2 := h.len2
  refine ⟨by simp [h.len, h'.len], by simp [h.len2, h'.len2], fun j v d hv hd => ?_, fun j k d hk hd => ?_⟩
  · by_cases hj : j < cs.length
    · rw [List.getElem?_append_left hj] at hv
      rw [List.getElem?_append_left (by omega)] at hd
      exact h.den j v d hv hd
    · rw [List.getElem?_append_right (by omega)] at hv
      rw [List.getElem?_append_right (by omega), show j - ds.length = j - cs.length by omega] at hd
      exact h'.den _ v d hv hd
  · by_cases hj : j < ks.length
    · rw [List.getElem?_append_left hj] at hk
      rw [List.getElem?_append_left (by omega)] at hd
      exact h.typ j k d hk hd
    · rw [List.getElem?_append_right (by omega)] at hk
      rw [List.getElem?_append_right (by omega), show j - ds.length = j - ks.length by omega] at hd
      exact h'.typ _ k d hk hd
theorem Reads.nil {w : World} : Reads w [] [] [] := ⟨rfl, rfl, fun _ _ _ h => by simp at h, fun _ _ _ h => by simp at h⟩
theorem Reads.one {w : World} {k : CT} {v d : Value} (h1 : DenF (phiW w).fz v d) (h2 : IsD k d) : Reads w [k] [v] [d] := by
  refine ⟨rfl, rfl, fun j v' d' hv hd => ?_, fun j k' d' hk hd => ?_⟩
  · cases j with
    | zero => simp at hv hd; subst hv hd; exact h1
    | succ j => simp at hv
  · cases j with
    | zero => simp at hk hd; subst hk hd; exact h2
    | succ j => simp at hk

/-- the kinds of the cells of fields -/
def ctFs (P : Program) (G : TypeId → Option (List CT)) : Nat → List Field → Option (List CT)
  | _, [] => some []
  | o, f :: fs => match G f.type with
    | some r => bif Nat.beq f.offset o && Nat.beq r.length (P.cellsOf f.type) then (match ctFs P G (o + r.length) fs with
      | some q => some (r ++ q)
      | none => none) else none
    | none => none
/-- the kinds of a type's cells -/
def ctOf (P : Program) : Nat → TypeId → Option (List CT)
  | 0, _ => none
  | n + 1, t => match P.underlying t with
    | some .bool => some [.b]
    | some (.int k) => some [.i k]
    | some .string => some [.s]
    | some (.slice e) => match ctOf P n e with
      | some r => bif Nat.beq r.length (P.cellsOf e) && Nat.ble 1 r.length then some [.l r] else none
      | none => none
    | some (.struct fs) => match ctFs P (ctOf P n) 0 fs.toList with
      | some r => bif Nat.beq r.length (P.cellsOf t) then some r else none
      | none => none
    | _ => none

def notL : CT → Bool
  | .l _ => false
  | _ => true
/-- rows of lists hold no lists -/
def flatK : CT → Bool
  | .l r => r.all notL
  | _ => true

/-- where the lists among cells lie -/
def Lies (w : World) (ks : List CT) (cs : List Value) : Prop := ks.all notL = true ∨ ∀ v ∈ cs, ∀ a l c, v = .slice (some a) l c → a.spot = none ∧ ∃ c' t m, w.heap[a.block]? = some (.cells c' t m) ∧ a.off ≤ c'.size

section
variable {H : Type} {enc : TypeId × Value → H} {P : Program} {w : World} {held : Bool}

theorem each_mem : ∀ {ts : List TypeId} {ds : List (DataW H)} {i : Nat} {t : TypeId} {d : DataW H} {n : Nat}, ts[i]? = some t → ds[i]? = some d → n ∈ d.weights P t → n ∈ DataW.weightsEach P ts ds
  | [], _, _, _, _, _, h, _, _ => by simp at h
  | _ :: _, [], _, _, _, _, _, h, _ => by simp at h
  | a :: ts, b :: ds, 0, t, d, n, h1, h2, h3 => by
    simp at h1 h2
    subst h1; subst h2
    unfold DataW.weightsEach
    exact List.mem_append_left _ h3
  | a :: ts, b :: ds, i + 1, t, d, n, h1, h2, h3 => by
    unfold DataW.weightsEach
    exact List.mem_append_right _ (each_mem (i := i) (by simpa using h1) (by simpa using h2) h3)
theorem all_mem : ∀ {ds : List (DataW H)} {i : Nat} {t : TypeId} {d : DataW H} {n : Nat}, ds[i]? = some d → n ∈ d.weights P t → n ∈ DataW.weightsAll P t ds
  | [], _, _, _, _, h, _ => by simp at h
  | b :: ds, 0, t, d, n, h2, h3 => by
    simp at h2
    subst h2
    unfold DataW.weightsAll
    exact List.mem_append_left _ h3
  | b :: ds, i + 1, t, d, n, h2, h3 => by
    unfold DataW.weightsAll
    exact List.mem_append_right _ (all_mem (i := i) (by simpa using h2) h3)

theorem fields_read {n : Nat} {cs : List Value} (ih : ∀ (t : TypeId) (cs' : List Value) (ks : List CT) (m : Nat) (y : DataW H × List MemPlace), ctOf P n t = some ks → ks.all flatK = true → Lies w ks cs' → DataW.trod enc P w 0 (fun _ => true) held m t cs' = some y → (∀ z ∈ y.1.weights P t, z ≤ reachBytes) → ∃ ds, Reads w ks cs' ds)
    : ∀ (fs : List Field) (o : Nat) (ks : List CT), ctFs P (ctOf P n) o fs = some ks → ks.all flatK = true → Lies w ks cs → (∀ f ∈ fs, ∃ m y, DataW.trod enc P w 0 (fun _ => true) held m f.type ((cs.drop f.offset).take (P.cellsOf f.type)) = some y ∧ ∀ z ∈ y.1.weights P f.type, z ≤ reachBytes) → ∃ ds, Reads w ks ((cs.drop o).take ks.length) ds := by
  intro fs
  induction fs with
  | nil =>
    intro o ks h _ _ _
    unfold ctFs at h
    cases h
    exact ⟨[], by simpa using Reads.nil⟩
  | cons f fs ihf =>
    intro o ks h hfl hsp ht
    unfold ctFs at h
    split at h
    case h_2 => cases h
    rename_i r hr
    cases hc : (Nat.beq f.offset o && Nat.beq r.length (P.cellsOf f.type)) with
    | false => rw [hc] at h; cases h
    | true =>
    rw [hc] at h
    simp only [cond_true] at h
    split at h
    case h_2 => cases h
    rename_i q hq
    cases h
    rw [Bool.and_eq_true] at hc
    have e1 := Nat.eq_of_beq_eq_true hc.1
    have e2 := Nat.eq_of_beq_eq_true hc.2
    rw [List.all_append, Bool.and_eq_true] at hfl
    obtain ⟨m, y, hy, hyw⟩ := ht f (List.mem_cons_self ..)
    rw [e1, ← e2] at hy
    obtain ⟨ds, h1⟩ := ih f.type _ r m y hr hfl.1 (hsp.imp (fun h => by rw [List.all_append, Bool.and_eq_true] at h; exact h.1) fun h v hv => h v (List.mem_of_mem_drop (List.mem_of_mem_take hv))) hy hyw
    obtain ⟨ds2, h2⟩ := ihf (o + r.length) q hq hfl.2 (hsp.imp (fun h => by rw [List.all_append, Bool.and_eq_true] at h; exact h.2) id) fun g hg => ht g (List.mem_cons_of_mem _ hg)
    refine ⟨ds ++ ds2, ?_⟩
    have : (cs.drop o).take (r ++ q).length = (cs.drop o).take r.length ++ ((cs.drop (o + r.length)).take q.length) := by
      rw [List.length_append, List.take_add, List.drop_drop]
    rw [this]
    exact h1.app h2

theorem flat_one {ks : List CT} {cs ds : List Value} (h : Reads w ks cs ds) (hf : ks.all notL = true) : ∀ (j : Nat) (v d : Value), cs[j]? = some v → ds[j]? = some d → v = d ∧ isOneV d = true := by
  intro j v d hv hd
  have hj : j < ks.length := by rw [← h.len]; exact (List.getElem?_eq_some_iff.1 hv).1
  have ht := h.typ j _ d (List.getElem?_eq_getElem hj) hd
  have hn := List.all_eq_true.1 hf _ (List.getElem_mem hj)
  have ho : isOneV d = true := by
    cases hk : ks[j] with
    | l r => rw [hk] at hn; cases hn
    | b => rw [hk] at ht; cases ht; rfl
    | i k => rw [hk] at ht; cases ht; rfl
    | s => rw [hk] at ht; cases ht; rfl
  exact ⟨@DenF.sc_eq noSymV _ _ _ (h.den j v d hv hd) ho, ho⟩

theorem trod_reads : ∀ (n : Nat) (t : TypeId) (cs : List Value) (ks : List CT) (m : Nat) (y : DataW H × List MemPlace), ctOf P n t = some ks → ks.all flatK = true → Lies w ks cs → DataW.trod enc P w 0 (fun _ => true) held m t cs = some y → (∀ z ∈ y.1.weights P t, z ≤ reachBytes) → ∃ ds, Reads w ks cs ds := by
  intro n
  induction n with
  | zero => intro t cs ks m y h; simp [ctOf] at h
  | succ n ih =>
    intro t cs ks m y h hfl hsp ht hwt
    unfold ctOf at h
    split at h
    · rename_i hu
      cases h
      obtain ⟨x, rfl, _⟩ := DataW.trod_bool hu ht
      exact ⟨[.bool x], Reads.one (.sc _ rfl) (.b x)⟩
    · rename_i k hu
      cases h
      obtain ⟨x, rfl, _, hw⟩ := DataW.trod_int hu ht
      exact ⟨[.int k x], Reads.one (.sc _ rfl) (.i k x hw)⟩
    · rename_i hu
      cases h
      obtain ⟨x, rfl, rfl, _⟩ := DataW.trod_string hu ht
      refine ⟨[.string x], Reads.one (.sc _ rfl) (.s x ?_)⟩
      refine hwt x.size ?_
      unfold DataW.weights
      simp
    · rename_i e hu
      split at h
      case h_2 => cases h
      rename_i r hr
      cases hc : (Nat.beq r.length (P.cellsOf e) && Nat.ble 1 r.length) with
      | false => rw [hc] at h; cases h
      | true =>
      rw [hc] at h
      cases h
      rw [Bool.and_eq_true] at hc
      have hk := Nat.eq_of_beq_eq_true hc.1
      have hk1 := Nat.le_of_ble_eq_true hc.2
      have hrow : r.all notL = true := by simpa [flatK] using hfl
      rcases DataW.trod_slice hu ht with ⟨rfl, _⟩ | ⟨a, len, cap, elems, rest, n', _, rfl, rfl, _, hl, hm, hlen, hel, hre, _⟩
      · exact ⟨[.slice none 0 0], Reads.one (.sc _ rfl) (.n r)⟩
      · have hsp' := (hsp.resolve_left (by simp [notL])) _ (List.mem_cons_self ..) a len cap rfl
        obtain ⟨blk, off, sp⟩ := a
        obtain ⟨h0, c, t', m', hb, ho⟩ := hsp'
        cases h0
        obtain ⟨hrl, hrr⟩ := hre rfl
        have hrows : ∀ i, i < cap → ∃ cs' ds', w.cells? 0 ((⟨blk, off, none⟩ : Addr).add (i * P.cellsOf e)) (P.cellsOf e) = some cs' ∧ Reads w r cs' ds' := by
          intro i hi
          have hb' : ∃ y, (w.cells? 0 ((⟨blk, off, none⟩ : Addr).add (i * P.cellsOf e)) (P.cellsOf e)).bind (DataW.trod enc P w 0 (fun _ => true) held n' e) = some y ∧ ∀ z ∈ y.1.weights P e, z ≤ reachBytes := by
            by_cases hil : i < len
            · rw [hel i hil, List.getElem?_eq_getElem (by omega)]
              refine ⟨_, rfl, fun z hz => hwt z ?_⟩
              unfold DataW.weights
              simp only [hu]
              refine List.mem_cons_of_mem _ (List.mem_append_left _ (all_mem (i := i) ?_ hz))
              rw [List.getElem?_map, List.getElem?_eq_getElem (by omega)]
              rfl
            · have := hrr (i - len) (by omega)
              rw [show len + (i - len) = i by omega] at this
              rw [this, List.getElem?_eq_getElem (by omega)]
              refine ⟨_, rfl, fun z hz => hwt z ?_⟩
              unfold DataW.weights
              simp only [hu]
              refine List.mem_cons_of_mem _ (List.mem_append_right _ (all_mem (i := i - len) ?_ hz))
              rw [List.getElem?_map, List.getElem?_eq_getElem (by omega)]
              rfl
          obtain ⟨y, hy, hyw⟩ := hb'
          rw [Option.bind_eq_some_iff] at hy
          obtain ⟨cs', h1, h2⟩ := hy
          obtain ⟨ds', h3⟩ := ih e cs' r n' y hr (by
            rw [List.all_eq_true] at hrow ⊢
            intro k hk
            have := hrow k hk
            cases k <;> first | rfl | cases this) (.inl hrow) h2 hyw
          exact ⟨cs', ds', h1, h3⟩
        -- the rows, and their cells in the block
        have hcell : ∀ i, i < cap → ∃ ds' : List Value, ds'.length = r.length ∧ (∀ (j : Nat) (k : CT) (d : Value), r[j]? = some k → ds'[j]? = some d → IsD k d) ∧ ∀ (j : Nat) (d : Value), ds'[j]? = some d → ∃ v : Value, c[off + i * r.length + j]? = some v ∧ DenF (phiW w).fz v d := by
          intro i hi
          obtain ⟨cs', ds', h1, h2⟩ := hrows i hi
          obtain ⟨_, h3, h4⟩ := World.cells?_some h1
          refine ⟨ds', h2.len2, h2.typ, fun j d hd => ?_⟩
          have hj : j < ds'.length := (List.getElem?_eq_some_iff.1 hd).1
          have hj2 : j < cs'.length := by rw [h2.len, ← h2.len2]; exact hj
          have h5 := h4 j (by omega)
          rw [WideShapes.add_plain, WideShapes.add_plain, List.getElem?_eq_getElem hj2] at h5
          unfold World.cell? at h5
          simp only [hb] at h5
          refine ⟨cs'[j], ?_, h2.den j _ d (List.getElem?_eq_getElem hj2) hd⟩
          rw [hk]
          simpa using h5
        have hex : ∃ f : Nat → List Value, ∀ i, i < cap → (f i).length = r.length ∧ (∀ (j : Nat) (k : CT) (d : Value), r[j]? = some k → (f i)[j]? = some d → IsD k d) ∧ ∀ (j : Nat) (d : Value), (f i)[j]? = some d → ∃ v : Value, c[off + i * r.length + j]? = some v ∧ DenF (phiW w).fz v d := by
          refine ⟨fun i => if h : i < cap then Classical.choose (hcell i h) else [], fun i hi => ?_⟩
          simp only [dif_pos hi]
          exact Classical.choose_spec (hcell i hi)
        obtain ⟨f, hf⟩ := hex
        have hget : ∀ (i : Nat) (q : List Value), ((List.range len).map f)[i]? = some q → i < len ∧ q = f i := by
          intro i q hq
          rw [List.getElem?_map, Option.map_eq_some_iff] at hq
          obtain ⟨i', h1, rfl⟩ := hq
          have := List.getElem?_eq_some_iff.1 h1
          simp at this
          exact ⟨this.1, by rw [this.2]⟩
        have hR : Eng.RowsIn (phiW w).fz c off r.length ((List.range len).map f) := by
          refine ⟨fun i q hq => ?_, fun i q j d hq hd => ?_⟩
          · obtain ⟨h1, rfl⟩ := hget i q hq
            exact (hf i (by omega)).1
          · obtain ⟨h1, rfl⟩ := hget i q hq
            exact (hf i (by omega)).2.2 j d hd
        have hsz : off + cap * r.length ≤ c.size := by
          by_cases h0 : cap = 0
          · rw [h0, Nat.zero_mul]; exact ho
          · obtain ⟨q1, _, q3⟩ := hf (cap - 1) (by omega)
            obtain ⟨v, q4, _⟩ := q3 (r.length - 1) _ (List.getElem?_eq_getElem (by omega))
            have q5 := (Array.getElem?_eq_some_iff.1 q4).1
            have : cap * r.length = (cap - 1) * r.length + r.length := by
              conv => lhs; rw [show cap = (cap - 1) + 1 by omega, Nat.add_mul, Nat.one_mul]
            omega
        have hden := @Eng.RowsIn.den noSymV (phiW w).fz blk off r.length cap c t' m' _ (phiW_fz hb) (by simp; exact hl) hk1 hsz hR
        rw [List.length_map, List.length_range] at hden
        refine ⟨[lv ((List.range len).map f)], Reads.one hden (.l r _ (by simp; omega) (fun q hq => ?_) fun q hq j k d hk' hd => ?_)⟩
        · obtain ⟨i, hi⟩ := List.getElem?_of_mem hq
          obtain ⟨h1, rfl⟩ := hget i q hi
          exact (hf i (by omega)).1
        · obtain ⟨i, hi⟩ := List.getElem?_of_mem hq
          obtain ⟨h1, rfl⟩ := hget i q hi
          exact (hf i (by omega)).2.1 j k d hk' hd
    · rename_i fs hu
      split at h
      case h_2 => cases h
      rename_i q hq
      cases hc : Nat.beq q.length (P.cellsOf t) with
      | false => rw [hc] at h; cases h
      | true =>
      rw [hc] at h
      cases h
      have hk := Nat.eq_of_beq_eq_true hc
      obtain ⟨xs, n', _, rfl, hcl, hxl, hx⟩ := DataW.trod_struct hu ht
      obtain ⟨ds, hd⟩ := fields_read (cs := cs) (fun t cs' ks m y => ih t cs' ks m y) fs.toList 0 ks hq hfl hsp fun f hf => by
        obtain ⟨i, hi⟩ := List.getElem?_of_mem hf
        have hi' : fs[i]? = some f := by simpa using hi
        have := hx i f hi'
        have hlt : i < xs.length := by rw [hxl]; exact (Array.getElem?_eq_some_iff.1 hi').1
        rw [List.getElem?_eq_getElem hlt] at this
        refine ⟨n', _, this, fun z hz => hwt z ?_⟩
        unfold DataW.weights
        simp only [hu]
        refine each_mem (i := i) (t := f.type) ?_ ?_ hz
        · rw [List.getElem?_map, hi]
          rfl
        · rw [List.getElem?_map, List.getElem?_eq_getElem hlt]
          rfl
      refine ⟨ds, ?_⟩
      have : (cs.drop 0).take ks.length = cs := by
        rw [List.drop_zero, hk, ← hcl, List.take_length]
      rw [this] at hd
      exact hd
    · cases h
end
end Go.Eng
/- Arguments that are data, as they are handed in: opened. -/
namespace Go.Eng
theorem cell_lies {P : Program} {w : World} {r : Reach} {base : Nat} {u : TypeId} {a : Addr} {l c : Nat} (h : Cell.okWide P w r base u (.slice (some a) l c)) : a.spot = none ∧ ∃ c' t m, w.heap[a.block]? = some (.cells c' t m) ∧ a.off ≤ c'.size := by
  have h1 : Cell.ok P w r base u (.slice (some a) l c) := by
    unfold Cell.okWide at h
    split at h <;> first | exact h | (rename_i h1; cases h1) | skip
    all_goals (rename_i h1 h2; first | cases h1 | cases h2)
  unfold Cell.ok at h1
  split at h1
  all_goals first
    | (rename_i h2 h3; cases h3; done)
    | skip
  all_goals first
    | cases h1; done
    | skip
  all_goals (rename_i h3; first | (injection h3 with e1 e2 e3; injection e1 with e1; subst e1; exact has_at h1.2.2) | cases h3)
theorem row_lies {P : Program} {w : World} {r : Reach} {base : Nat} {t : TypeId} {cs : Array Value} (h : Row.okWide P w r base t cs) (ks : List CT) : Lies w ks cs.toList := by
  obtain ⟨ts, _, _, h3⟩ := h
  right
  intro v hv a l c he
  obtain ⟨i, hi⟩ := List.getElem?_of_mem hv
  obtain ⟨u, _, h4⟩ := h3 i v (by simpa using hi)
  rw [he] at h4
  exact cell_lies h4
/-- a struct of data -/
theorem struct_reads {H : Type} {enc : TypeId × Value → H} {P : Program} {w : World} {r : Reach} {base n : Nat} {t : TypeId} {fs : Array Field} {ks : List CT} {v : Value} {d : DataW H} {p : List MemPlace} (hu : P.underlying t = some (.struct fs)) (hk : ctOf P n t = some ks) (hf : ks.all flatK = true) (h : Value.okWide P w r base t v) (k : DataW.Trod enc P w 0 (fun _ => true) true t v d p) (hwt : ∀ z ∈ d.weights P t, z ≤ reachBytes) : ∃ cs ds, v = .agg ⟨cs⟩ ∧ Reads w ks cs ds := by
  unfold Value.okWide at h
  simp only [hu] at h
  obtain ⟨cs, rfl, _, hr⟩ := h
  obtain ⟨m, hm⟩ := k
  obtain ⟨ds, hd⟩ := trod_reads n t _ ks m _ hk hf (row_lies hr ks) hm hwt
  exact ⟨cs.toList, ds, rfl, hd⟩
/-- a slice of data -/
theorem slice_reads {H : Type} {enc : TypeId × Value → H} {P : Program} {w : World} {r : Reach} {base n : Nat} {t e : TypeId} {ks : List CT} {v : Value} {d : DataW H} {p : List MemPlace} (hu : P.underlying t = some (.slice e)) (hk : ctOf P n t = some ks) (hf : ks.all flatK = true) (h : Value.okWide P w r base t v) (k : DataW.Trod enc P w 0 (fun _ => true) true t v d p) (hwt : ∀ z ∈ d.weights P t, z ≤ reachBytes) : ∃ ds, Reads w ks [v] ds := by
  unfold Value.okWide at h
  simp only [hu] at h
  obtain ⟨m, hm⟩ := k
  have hl : ∀ a l c, v = .slice (some a) l c → a.spot = none ∧ ∃ c' t m, w.heap[a.block]? = some (.cells c' t m) ∧ a.off ≤ c'.size := by
    intro a l c he
    rw [he] at h
    exact cell_lies h
  have hc : v.cells.toList = [v] := by
    cases v <;> first | rfl | (unfold Cell.okWide Cell.ok at h; simp [hu] at h)
  obtain ⟨ds, hd⟩ := trod_reads n t _ ks m _ hk hf (.inr fun x hx a l c he => hl a l c (by
    rw [hc] at hx
    simp at hx
    rw [← hx]
    exact he)) hm hwt
  rw [hc] at hd
  exact ⟨ds, hd⟩
/-- what a claim says of sizes, an argument at a time -/
theorem weights_of {H : Type} {P : Program} {ts : List TypeId} {ds : List (DataW H)} (h : (DataW.weightsEach P ts ds).all (· ≤ reachBytes) = true) {i : Nat} {t : TypeId} {d : DataW H} (h1 : ts[i]? = some t) (h2 : ds[i]? = some d) : ∀ z ∈ d.weights P t, z ≤ reachBytes := by
  intro z hz
  exact of_decide_eq_true (List.all_eq_true.1 h z (each_mem h1 h2 hz))
end Go.Eng
