/- A function that hands back a map's keys, sorted: what it gives, at whatever world. -/
import Derived.Test.YtbmbakmhnimkfaaGreatLay
import Derived.Test.YtbmbakmhnimkfaaGreatEngX5
set_option linter.unusedSimpArgs false
set_option linter.unusedVariables false
namespace Go.Proofs.YtbmbakmhnimkfaaGreat
open Go Go.Eng Go.RowKit Go.Maps Go.Shelf

theorem sortsA (m : Nat) : AnyZI.SortsIn Tryz.prog Tryz.sortedA_ren Fence.wide m :=
  ⟨fun blk off cap ss W hH hblk hsz => callsIn_wide.2 (AnyM.slices_Sort_int Tryz.sortA blk off cap ss W hH hblk hsz),
   fun p cap W => callsIn_wide.2 (AnyM.slices_Sort_int_none Tryz.sortA p cap W)⟩

set_option maxRecDepth 100000 in
set_option maxHeartbeats 1000000 in
theorem keysFnA : KeysFn Tryz.prog 215 273 3 0 := by
  intro B off w Q ks hn hQ
  refine (callsIn_wide (n := 6)).1 ?_
  have hn' : CallsIn Fence.wide 5 Tryz.prog 273 #[.pointer (some ⟨B, off, none⟩)] w (fun e w1 => e = .returned (.bool false) ∧ Q w1) := callsIn_wide.2 hn
  have cK : ∀ mb W, CallsIn Fence.wide 5 Tryz.prog 326 #[.map mb] W fun e w' => e = .returned (.func (.func 402) #[] #[.pointer (some ⟨W.heap.size, 0, none⟩)]) ∧ w' = W.alloc (.cells #[.map mb] 327) := fun mb W => AnyZI.keys_in Tryz.keysA Fence.wide 5 trivial rfl mb W
  have hfN : Fence.wide.fn 273 := trivial
  have hfK : Fence.wide.fn 326 := trivial
  have hfS : Fence.wide.fn 325 := trivial
  refine callsIn_of_wp Tryz.func215 rfl trivial ?_ rfl
  simp only [Tryz.ntmps215, List.size_toArray, List.length_cons, List.length_nil, Nat.reduceAdd, Nat.reduceSub, Array.replicate_succ, Array.replicate_zero, List.push_toArray, List.append_toArray, List.nil_append, List.cons_append]
  have hQ' : ∀ w1, Q w1 → ∃ r, w1.cell? ⟨B, off, none⟩ = some (.map (some r)) ∧ HasKeys Tryz.prog 3 w1 r ks := hQ
  gi_wp2_with (gi_at_call 273; refine hn'.mono ?_; rintro e w1 ⟨rfl, hq⟩; obtain ⟨r, hcell, nn, D0, hown, hperm, hsize⟩ := hQ' w1 hq)
  have hbl := hown.lt
  have hB : B < w1.heap.size := by
    simp only [World.cell?] at hcell
    cases hg : w1.heap[B]? with
    | none => rw [hg] at hcell; cases hcell
    | some o => exact (Array.getElem?_eq_some_iff.1 hg).1
  have hseq : SeqGives Fence.wide 2 Tryz.prog 402 #[.pointer (some ⟨w1.heap.size, 0, none⟩)] encZ (fun ss => ss.Perm (intKeys D0)) (Maps.size D0) (w1.alloc (.cells #[.map (some r)] 327)) :=
    AnyZI.keys_gives (ρ := Tryz.keysA_ren) { Tryz.keysA with } Fence.wide _ trivial rfl (by omega) w1.heap.size r nn D0 _ (by simp) (by simp) (by
      obtain ⟨es, clock, hb, Ft, hs, hD⟩ := hown
      exact ⟨es, clock, (Below.heap_alloc _ _ r hbl).trans hb, Ft, hs, hD⟩)
  have hmax : Maps.size D0 ≤ maxLen := Nat.le_trans hsize (by decide)
  have cS := AnyZI.sorted_in Tryz.sortedA Fence.wide 5 trivial trivial trivial trivial rfl (by omega) (sortsA _) (enters_of Tryz.func401 (by kernel_rfl) rfl) 402 #[.pointer (some ⟨w1.heap.size, 0, none⟩)] trivial (enters_of Tryz.func402 (by kernel_rfl) rfl) _ _ hmax (by omega) _ hseq
  change CallsIn _ _ Tryz.prog 325 _ _ _ at cS
  gi_wp2_with (first
    | (gi_at_call 326; refine (cK _ _).mono ?_; rintro e w' ⟨rfl, rfl⟩)
    | (gi_at_call 325; refine cS.mono ?_; rintro e w' ⟨v, ss, rfl, hS, hrow, hnil, hb⟩))
  go_ret
  have hp : ss.Perm ks := hS.trans hperm
  refine ⟨v, w1, rfl, hq, ?_, ?_, ((Below.refl _ w1).alloc (Nat.le_refl _) _).trans (hb.mono (by simp))⟩
  · have := ownsRow_base_a hrow (by simp : w1.heap.size ≤ (w1.alloc (.cells #[.map (some r)] 327)).heap.size)
    rw [mergeSort_isort hp, hp.length_eq] at this
    exact this
  · rw [hnil]
    constructor
    · intro h; subst h; exact hp.symm.eq_nil
    · intro h; subst h; exact hp.eq_nil
end Go.Proofs.YtbmbakmhnimkfaaGreat
