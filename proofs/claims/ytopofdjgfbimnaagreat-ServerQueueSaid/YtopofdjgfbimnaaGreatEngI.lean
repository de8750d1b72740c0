/- The engine's effects are those of the model: append. -/
import Derived.Test.YtopofdjgfbimnaaGreatEngH
namespace Go.Eng
variable [SymV] [SymT]
section
variable {P : Program}

theorem elems_sim {φ : Phi} {g : Nat → Option LB} {w : World} {size k : Nat} {x x' : Value} {vs : List Value} (hm : MRp φ g w) (h : lelems g size x = some (k, vs)) (hx : VR φ x x') :
    (Builtin.lenOf x').run P w = .ok k w ∧ vs.length = k * size ∧
      ∃ vs', (∀ W : World, W.heap = w.heap → (Builtin.firstCells size k x').run P W = .ok vs' W) ∧ VRL φ vs vs'.toList := by
  unfold lelems at h
  split at h
  · cases h; cases hx
    exact ⟨rfl, by simp, #[], fun W _ => rfl, .nil⟩
  · rename_i a n cp
    cases hn : Nat.beq n 0 with
    | true =>
      simp only [hn, cond_true, Option.some.injEq, Prod.mk.injEq] at h
      obtain ⟨rfl, rfl⟩ := h
      have := Nat.eq_of_beq_eq_true hn
      subst this
      have hlc : ∀ (a' : Addr) (W : World), (loadCells a' (0 * size)).run P W = .ok #[] W := by
        intro a' W
        rw [Nat.zero_mul]; rfl
      cases hx with
      | slice _ _ _ _ _ cap' l hl => exact ⟨rfl, by simp, #[], fun W _ => hlc _ W, .nil⟩
      | sdead _ _ _ _ _ cap' a' hl => exact ⟨rfl, by simp, #[], fun W _ => hlc _ W, .nil⟩
      | szero => exact ⟨rfl, by simp, #[], fun W _ => hlc _ W, .nil⟩
    | false =>
    simp only [hn, cond_false] at h
    have hn0 : n ≠ 0 := fun h0 => by rw [h0] at hn; cases hn
    split at h
    · rename_i c hc
      simp only [Option.map_eq_some_iff, Prod.mk.injEq] at h
      obtain ⟨vs0, hr, rfl, rfl⟩ := h
      obtain ⟨l, o, cp', hl, rfl, ho, hbr⟩ := slice_cells hm hx hc
      obtain rfl : o = l.sh + a.off := by
        rcases ho with ho | ho
        · exact ho
        · exact absurd ho hn0
      obtain ⟨vs', g1, g2, g3⟩ := row_sim (P := P) hbr hr
      exact ⟨rfl, g3, vs', g1, g2⟩
    · cases h
  · rename_i s
    cases hx
    cases hb : Nat.beq size 1 with
    | false => simp [hb] at h
    | true =>
      simp only [hb, cond_true, Option.some.injEq, Prod.mk.injEq] at h
      obtain ⟨rfl, rfl⟩ := h
      have := Nat.eq_of_beq_eq_true hb
      subst this
      refine ⟨rfl, by simp, _, fun W _ => rfl, ?_⟩
      have he : (s.extract 0 s.data.toList.length).data = s.data := by
        apply Array.ext'
        rw [extract_bytes s 0 _ (Nat.zero_le _)]
        simp only [List.drop_zero, Nat.sub_zero, List.take_length]
      rw [he]
      simp only [Array.toList_map]
      refine VRL.refl_of fun x hx => ?_
      obtain ⟨b, _, rfl⟩ := List.mem_map.1 hx
      exact .int _ _
  · cases h

theorem growBy_le (n : Nat) : ∀ r c, c ≤ 2 * n + 768 → Builtin.growBy n r c ≤ 2 * n + 768
  | 0, c, h => by have _s := SymT.tab; have _s := SymT.tab; simpa [Builtin.growBy] using h
  | r + 1, c, h => by
    unfold Builtin.growBy
    split
    · exact h
    · exact growBy_le n r _ (by omega)

theorem nextcap_le (n c : Nat) (h : c < n) : Builtin.nextslicecap n c ≤ 2 * n + 768 := by
  unfold Builtin.nextslicecap
  split
  · omega
  · split
    · omega
    · exact growBy_le n 4 c (by omega)

theorem pow63 : (2 : Nat) ^ 63 = 9223372036854775808 := by
  have _s := SymT.tab
  decide

/-- append where the row must be made anew -/
theorem run_append_grows {t u ty e : TypeId} {du : TypeDesc} {ie : TypeInfo} {z : Value} {base : Option Addr} {n cp k : Nat} {x' : Value} {old new : Array Value} (w : World)
    (ht : P.underlying t = some (.slice e)) (hu : P.underlying u = some du) (hd : (∃ q, du = .slice q) ∨ du = .string) (hi : P.info? e = some ie) (hz : ie.zero = some z) (hb : ie.bytes ≤ 4096)
    (hlen : (Builtin.lenOf x').run P w = .ok k w) (hgt : cp < n + k) (hsmall : n + k ≤ 2097152)
    (hold : ∀ W : World, W.heap = w.heap → (Builtin.firstCells ie.size n (.slice base n cp)).run P W = .ok old W)
    (hnew : ∀ W : World, W.heap = w.heap → (Builtin.firstCells ie.size k x').run P W = .ok new W) :
    ∃ c', n + k ≤ c' ∧ (Builtin.append_ #[t, u] ty #[.slice base n cp, x']).run P w =
      .ok (.slice (some ⟨w.heap.size, 0, none⟩) (n + k) c') (w.drew.alloc (.cells (old ++ new ++ Builtin.zeroCells z.cells (c' - (n + k))) e)) := by
  refine ⟨grownCap w (n + k) cp e, grownCap_ge w (n + k) cp e, ?_⟩
  have hn : ¬ (n + k ≤ cp) := by omega
  have h63' : ¬ (9223372036854775807 < ((n : Int) + (k : Int))) := by omega
  have h48' : ¬ (281474976710656 < Builtin.nextslicecap (n + k) cp * ie.bytes) := by
    have h1 := nextcap_le (n + k) cp hgt
    have h2 : Builtin.nextslicecap (n + k) cp * ie.bytes ≤ (2 * (n + k) + 768) * 4096 := Nat.mul_le_mul h1 hb
    omega
  have ho := hold w.drew rfl
  have hw := hnew w.drew rfl
  rcases hd with ⟨q, rfl⟩ | rfl <;>
    simp [Builtin.append_, run_underlying ht, run_underlying hu, sizeOf, typeInfo, zeroValue, hi, hz, hlen, hn, h63', h48', Question.forced, ho, hw, newRow, grownCap]

/-- append within the capacity -/
theorem run_append_fits {t u ty e : TypeId} {du : TypeDesc} {ie : TypeInfo} {a : Addr} {n cp k : Nat} {x' : Value} {new : Array Value} (w w' : World)
    (ht : P.underlying t = some (.slice e)) (hu : P.underlying u = some du) (hd : (∃ q, du = .slice q) ∨ du = .string) (hi : P.info? e = some ie)
    (hlen : (Builtin.lenOf x').run P w = .ok k w) (hle : n + k ≤ cp)
    (hnew : (Builtin.firstCells ie.size k x').run P w = .ok new w) (hst : (storeCells (a.add (n * ie.size)) new.toList).run P w = .ok () w') :
    (Builtin.append_ #[t, u] ty #[.slice (some a) n cp, x']).run P w = .ok (.slice (some a) (n + k) cp) w' := by
  have _s := SymT.tab
  rcases hd with ⟨q, rfl⟩ | rfl <;>
    simp [Builtin.append_, run_underlying ht, run_underlying hu, sizeOf, typeInfo, hi, hlen, hle, hnew, hst]

theorem run_append_fits_nil {t u ty e : TypeId} {du : TypeDesc} {ie : TypeInfo} {x' : Value} {new : Array Value} (w : World)
    (ht : P.underlying t = some (.slice e)) (hu : P.underlying u = some du) (hd : (∃ q, du = .slice q) ∨ du = .string) (hi : P.info? e = some ie)
    (hlen : (Builtin.lenOf x').run P w = .ok 0 w) (hnew : (Builtin.firstCells ie.size 0 x').run P w = .ok new w) :
    (Builtin.append_ #[t, u] ty #[.slice none 0 0, x']).run P w = .ok (.slice none 0 0) w := by
  have _s := SymT.tab
  rcases hd with ⟨q, rfl⟩ | rfl <;>
    simp [Builtin.append_, run_underlying ht, run_underlying hu, sizeOf, typeInfo, hi, hlen, hnew]

def kill (φ : Phi) (b : Nat) : Phi := fun id => if id = b then some none else φ id

theorem kill_ext {φ : Phi} {b : Nat} : Ext φ (kill φ b) := by
  have _s := SymT.tab
  intro id _
  unfold kill
  by_cases h : id = b
  · rw [if_pos h]; exact .inr rfl
  · rw [if_neg h]; exact .inl rfl
theorem kill_same (φ : Phi) (b : Nat) : kill φ b b = some none := by
  have _s := SymT.tab
  simp [kill]
theorem kill_other {φ : Phi} {b id : Nat} (h : id ≠ b) : kill φ b id = φ id := by
  have _s := SymT.tab
  simp [kill, h]

theorem kill_MR {φ : Phi} {G G' : Nat → Option LB} {w : World} {b : Nat} (hm : MR φ G w) (hb : G' b = some .dead) (ho : ∀ id, id ≠ b → G' id = G id) : MR (kill φ b) G' w := by
  refine ⟨fun id l hl => ?_, fun id hd => ?_, fun id jd l l' h1 h2 h3 => ?_⟩
  · have hne : id ≠ b := fun h => by rw [h, kill_same] at hl; cases hl
    rw [kill_other hne] at hl
    obtain ⟨B, g1, g2⟩ := hm.live id l hl
    exact ⟨B, by rw [ho id hne]; exact g1, g2.mono kill_ext rfl⟩
  · by_cases hne : id = b
    · rw [hne]; exact hb
    · rw [kill_other hne] at hd; rw [ho id hne]; exact hm.dead id hd
  · have hi : id ≠ b := fun h => by rw [h, kill_same] at h1; cases h1
    have hj : jd ≠ b := fun h => by rw [h, kill_same] at h2; cases h2
    rw [kill_other hi] at h1; rw [kill_other hj] at h2
    exact hm.inj id jd l l' h1 h2 h3

/-- the cells of a row that append made -/
theorem grown_BR {φ : Phi} {w : World} {c old vs : List Value} {o n z : Array Value} {e : TypeId} (ho : VRL φ old o.toList) (hn : VRL φ vs n.toList) (hc : c = old ++ vs) :
    BR φ (.cells c) ⟨w.heap.size, 0, (o ++ n ++ z).size⟩ (w.drew.alloc (.cells (o ++ n ++ z) e)) := by
  have _s := SymT.tab
  have _s := SymT.tab
  subst hc
  have h1 := ho.length
  have h2 := hn.length
  have h1' : old.length = o.size := by simpa using h1
  have h2' : vs.length = n.size := by simpa using h2
  refine ⟨_, e, heap_alloc_new w.drew _, rfl, by simp; omega, fun i v hv => ?_⟩
  obtain ⟨v', g1, g2⟩ := (ho.append hn).get hv
  refine ⟨v', ?_, g2⟩
  have hlt : i < o.size + n.size := by
    have := (List.getElem?_eq_some_iff.1 hv).1
    simp at this; omega
  rw [Nat.zero_add, Array.getElem?_append_left (by simp; omega)]
  have : (o ++ n)[i]? = (o.toList ++ n.toList)[i]? := by rw [← Array.toList_append, Array.getElem?_toList]
  rw [this]; exact g1

theorem ubL_append {f : Value → Nat} {a b : List Value} {N : Nat} (ha : ubL f a ≤ N) (hb : ubL f b ≤ N) : ubL f (a ++ b) ≤ N := by
  have _s := SymT.tab
  apply ubL_of
  intro x hx
  rcases List.mem_append.1 hx with h | h
  · exact ubL_le ha x h
  · exact ubL_le hb x h

end
end Go.Eng
