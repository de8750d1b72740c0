/- HistoryBack: a frame of a scene: that there is one, and how long it may be. -/
import Derived.Test.YtfcjlgdpdomoeaaGreatUY
import Derived.Test.YtfcjlgdpdomoeaaGreatUB
set_option linter.unusedSimpArgs false
set_option linter.unusedVariables false
namespace Go.Proofs.YtfcjlgdpdomoeaaGreat.U
open Go Go.Eng
theorem shr_any (n : Int) (i : Nat) (h : i ≤ 7) : sev (.bin .shr) [.int .u64 n, .int .u64 (8 * (i : Int))] = some (.int .u64 (shV n i)) := shr_sev n i h
theorem wbytes_1 (n : Int) (b : Bool) : ∀ (i k : Nat) (z : Int) (w : List UInt8), z = (i : Int) - 1 → w.length + i ≤ 1000000 → i ≤ 8 → i < k → ∃ w', runT [] wbytes_f k 1 [sT w, .bool b, .int .u64 n, .int .i64 z] noL = some ([sT w', .bool b], noL) ∧ w'.length ≤ w.length + i := by
  intro i
  induction i with
  | zero =>
    intro k z w hz _ _ hk
    subst hz
    refine ⟨w, ?_, Nat.le_refl _⟩
    obtain ⟨k, rfl⟩ : ∃ j, k = j + 1 := ⟨k - 1, by omega⟩
    exact Eq.trans (CFn.step _ rfl) rfl
  | succ i ih =>
    intro k z w hz hn h8 hk
    obtain rfl : z = (i : Int) := by omega
    obtain ⟨k, rfl⟩ : ∃ j, k = j + 1 := ⟨k - 1, by omega⟩
    obtain ⟨w', e, hw⟩ := ih k ((i : Int) - 1) (w ++ [UInt8.ofNat (byV n i).toNat]) rfl (by rw [List.length_append, List.length_singleton]; omega) (by omega) (by omega)
    refine ⟨w', ?_, by rw [List.length_append, List.length_singleton] at hw; omega⟩
    refine Eq.trans (CFn.step _ rfl) ?_
    refine Eq.trans (evK_t (decide ((i : Int) ≥ 0)) rfl) ?_
    rw [decide_eq_true (by omega : (i : Int) ≥ 0), cond_true]
    refine Eq.trans (evK_d (.int .i64 (8 * (i : Int))) (by
      show some (Value.int .i64 (IntKind.i64.wrap (8 * (i : Int)))) = _
      rw [wrap_in (by unfold i64R; omega)])) ?_
    refine Eq.trans (evK_d (.int .u64 (8 * (i : Int))) (by
      show some (Value.int .u64 (IntKind.u64.wrap (8 * (i : Int)))) = _
      rw [wrapU64, Int.emod_eq_of_lt (by omega) (by omega)])) ?_
    refine Eq.trans (evK_d (.int .u64 (shV n i)) (shr_any n i (by omega))) ?_
    refine Eq.trans (evK_d (.int .u8 (byV n i)) rfl) ?_
    refine Eq.trans (evK_d (sT [UInt8.ofNat (byV n i).toNat]) rfl) ?_
    refine Eq.trans (evK_d (sT (w ++ [UInt8.ofNat (byV n i).toNat])) (by
      show (bif Nat.ble (w.length + [UInt8.ofNat (byV n i).toNat].length) 1152921504606846976 then some (Value.string ⟨⟨w ++ [UInt8.ofNat (byV n i).toNat]⟩⟩) else none) = _
      rw [Nat.ble_eq_true_of_le (by rw [List.length_singleton]; omega)]
      rfl)) ?_
    refine Eq.trans (evK_d (.int .i64 ((i : Int) - 1)) (by
      show some (Value.int .i64 (IntKind.i64.wrap ((i : Int) - 1))) = _
      rw [wrap_in (by unfold i64R; omega)])) ?_
    exact e
theorem wbytes_cF (l k : List Value) : wbytes_c.F l k = CFn.F (P := Tryz.prog) [] wbytes_f l k := rfl
def wbytes_g : List AV → Option (List AV)
  | [.s n, .b x, .i .u64 _ _, .i .i64 lo hi] => bif ile 0 lo && ile hi 8 && Nat.ble n 999992 then some [.s (Nat.add n hi.toNat), .b x] else none
  | _ => none
noncomputable def wbytes_A : AC Tryz.prog := ⟨wbytes_c, wbytes_g, fun aq rs vs h hv => by
  unfold wbytes_g at h
  split at h
  case h_2 => cases h
  rename_i n x a c lo hi
  cases hb : (ile 0 lo && ile hi 8 && Nat.ble n 999992) with
  | false => rw [hb] at h; cases h
  | true =>
    rw [hb] at h
    cases h
    rw [Bool.and_eq_true, Bool.and_eq_true, ile_iff, ile_iff] at hb
    have hn := Nat.le_of_ble_eq_true hb.2
    match vs, hv with
    | [v0, v1, v2, v3], hv =>
      obtain ⟨t, rfl, ht⟩ := has_s hv.1
      obtain ⟨y, rfl, hy⟩ := has_b hv.2.1
      obtain ⟨m, rfl, _⟩ := has_i hv.2.2.1
      obtain ⟨k, rfl, hk⟩ := has_i hv.2.2.2.1
      obtain ⟨i, rfl⟩ : ∃ i : Nat, k = (i : Int) := ⟨k.toNat, by omega⟩
      obtain ⟨w', e, hw⟩ := wbytes_1 m y i (i + 1) ((i : Int) - 1) t.data.toList rfl (by omega) (by omega) (by omega)
      refine ⟨[sT w', .bool y], ?_, ?_, hy, trivial⟩
      · rw [wbytes_cF]
        refine CFn.begin (i + 2) (by unfold manyK; omega) ?_
        refine Eq.trans (CFn.step _ rfl) ?_
        refine Eq.trans (evK_d (.int .i64 ((i : Int) - 1)) (by
          show some (Value.int .i64 (IntKind.i64.wrap ((i : Int) - 1))) = _
          rw [wrap_in (by unfold i64R; omega)])) ?_
        exact e
      · show w'.length ≤ n + hi.toNat
        omega⟩
noncomputable def next_A : AC Tryz.prog := AC.of [] next_f next_c (fun _ _ => by kernel_rfl)
noncomputable def units_A : AC Tryz.prog := AC.of [next_A] units_f units_c (fun _ _ => by kernel_rfl)
noncomputable def dvec_A : AC Tryz.prog := AC.of [units_A] dvec_f dvec_c (fun _ _ => by kernel_rfl)
noncomputable def ssetup_A : AC Tryz.prog := AC.of [next_A] ssetup_f ssetup_c (fun _ _ => by kernel_rfl)
noncomputable def wsmall_A : AC Tryz.prog := AC.of [wbytes_A] wsmall_f wsmall_c (fun _ _ => by kernel_rfl)
noncomputable def wcount_A : AC Tryz.prog := AC.of [wsmall_A] wcount_f wcount_c (fun _ _ => by kernel_rfl)
noncomputable def wint_A : AC Tryz.prog := AC.of [wbytes_A] wint_f wint_c (fun _ _ => by kernel_rfl)
noncomputable def wflag_A : AC Tryz.prog := AC.of [wbytes_A] wflag_f wflag_c (fun _ _ => by kernel_rfl)
noncomputable def wnum_A : AC Tryz.prog := AC.of [wint_A, wflag_A] wnum_f wnum_c (fun _ _ => by kernel_rfl)
noncomputable def wvec_A : AC Tryz.prog := AC.of [wnum_A] wvec_f wvec_c (fun _ _ => by kernel_rfl)
noncomputable def wver_A : AC Tryz.prog := AC.of [wint_A] wver_f wver_c (fun _ _ => by kernel_rfl)
noncomputable def whan_A : AC Tryz.prog := AC.of [wcount_A] whan_f whan_c (fun _ _ => by kernel_rfl)
noncomputable def wspot_A : AC Tryz.prog := AC.of [wint_A] wspot_f wspot_c (fun _ _ => by kernel_rfl)
noncomputable def wpose_A : AC Tryz.prog := AC.of [wvec_A, wnum_A] wpose_f wpose_c (fun _ _ => by kernel_rfl)
noncomputable def wshape_A : AC Tryz.prog := AC.of [wsmall_A, wint_A] wshape_f wshape_c (fun _ _ => by kernel_rfl)
noncomputable def frame_A : AC Tryz.prog := AC.of [wbytes_A] frame_f frame_c (fun _ _ => by kernel_rfl)
noncomputable def sshape_A : AC Tryz.prog := AC.of [] sshape_f sshape_c (fun _ _ => by kernel_rfl)
noncomputable def scall_A : AC Tryz.prog := AC.of [sshape_A] scall_f scall_c (fun _ _ => by kernel_rfl)
noncomputable def used_A : AC Tryz.prog := AC.of [] used_f used_c (fun _ _ => by kernel_rfl)
noncomputable def wcall_A : AC Tryz.prog := AC.of [wsmall_A, wcount_A, wshape_A, wpose_A, wvec_A, wnum_A, wint_A, wflag_A, whan_A, wver_A, wspot_A] wcall_f wcall_c (fun _ _ => by kernel_rfl)
noncomputable def ccall_A : AC Tryz.prog := AC.of [used_A, scall_A, wcall_A] ccall_f ccall_c (fun _ _ => by kernel_rfl)
noncomputable def rcall_A : AC Tryz.prog := AC.of [ccall_A, wcall_A] rcall_f rcall_c (fun _ _ => by kernel_rfl)
noncomputable def scene1_A : AC Tryz.prog := AC.of [next_A, dvec_A, units_A] scene1_f scene1_c (fun _ _ => by kernel_rfl)
noncomputable def lframe_A : AC Tryz.prog := AC.of [scene1_A, rcall_A, frame_A] lframe_f lframe_c (fun _ _ => by kernel_rfl)
/-- an answer that is a text of at most so many bytes -/
def oneS (r : Option (List AV)) (n : Nat) : Bool := match r with
  | some [.s m] => Nat.ble m n
  | _ => false
theorem oneS_ok {r : Option (List AV)} {n : Nat} (h : oneS r n = true) : ∃ m, r = some [.s m] ∧ m ≤ n := by
  unfold oneS at h
  split at h
  · exact ⟨_, rfl, Nat.le_of_ble_eq_true h⟩
  · cases h
end Go.Proofs.YtfcjlgdpdomoeaaGreat.U
