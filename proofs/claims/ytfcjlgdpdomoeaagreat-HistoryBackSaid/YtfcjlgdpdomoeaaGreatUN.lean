/- HistoryRead: numbers as bytes. -/
import Derived.Test.YtfcjlgdpdomoeaaGreatUK
set_option linter.unusedSimpArgs false
set_option linter.unusedVariables false
namespace Go.Proofs.YtfcjlgdpdomoeaaGreat.U
open Go Go.Eng
theorem wrapU64 (n : Int) : IntKind.u64.wrap n = n % 18446744073709551616 := by simp [IntKind.wrap, IntKind.bits, IntKind.signed]
/-- a number's byte -/
def shV (n : Int) (i : Nat) : Int := n.fdiv (2 ^ (8 * i))
def byV (n : Int) (i : Nat) : Int := IntKind.u8.wrap (shV n i)
/-- the lowest bytes of a number, the highest first -/
def be (n : Int) : Nat → List Int
  | 0 => []
  | k + 1 => byV n k :: be n k
theorem be_len (n : Int) : ∀ k, (be n k).length = k
  | 0 => rfl
  | k + 1 => by rw [be, List.length_cons, be_len n k]
def rowB (l : List Int) : List (List Value) := l.map fun n => [.int .u8 n]
/-- a list of bytes as a deep value -/
def BV (V : Value) (l : List Int) : Prop := lrows V = some (rowB l)
theorem BV.nil : BV (.slice none 0 0) [] := rfl
theorem BV.lv (l : List Int) : BV (Eng.lv (rowB l)) l := lrows_lv _
theorem rowB_app (l m : List Int) : rowB l ++ rowB m = rowB (l ++ m) := by simp [rowB]
theorem app1 {V : Value} {l : List Int} (h : BV V l) (hn : l.length + 1 ≤ 1048576) (b : Int) : lsev (.app 1) [V, .int .u8 b] = some (Eng.lv (rowB (l ++ [b]))) := by
  have h1 : Nat.ble ((rowB l).length + [Value.int .u8 b].length) 1048576 = true := by
    refine Nat.ble_eq_true_of_le ?_
    rw [rowB, List.length_map]
    exact hn
  have h2 : lrows V = some (rowB l) := h
  have h5 : Nat.beq ([Value.int .u8 b].length % 1) 0 = true := by rw [Nat.mod_one]; rfl
  simp only [lsev, h2, h1, h5]
  rw [← rowB_app]
  rfl
theorem app2 {V : Value} {l : List Int} (h : BV V l) (hn : l.length + 2 ≤ 1048576) (a b : Int) : lsev (.app 1) [V, .int .u8 a, .int .u8 b] = some (Eng.lv (rowB (l ++ [a, b]))) := by
  have h1 : Nat.ble ((rowB l).length + [Value.int .u8 a, .int .u8 b].length) 1048576 = true := by
    refine Nat.ble_eq_true_of_le ?_
    rw [rowB, List.length_map]
    exact hn
  have h2 : lrows V = some (rowB l) := h
  have h5 : Nat.beq ([Value.int .u8 a, .int .u8 b].length % 1) 0 = true := by rw [Nat.mod_one]; rfl
  simp only [lsev, h2, h1, h5]
  rw [← rowB_app]
  rfl
theorem shr_sev (n : Int) : ∀ i : Nat, i ≤ 7 → sev (.bin .shr) [.int .u64 n, .int .u64 (8 * (i : Int))] = some (.int .u64 (shV n i))
  | 0, _ => rfl
  | 1, _ => rfl
  | 2, _ => rfl
  | 3, _ => rfl
  | 4, _ => rfl
  | 5, _ => rfl
  | 6, _ => rfl
  | 7, _ => rfl
  | _ + 8, h => by omega
theorem put_1 (n : Int) : ∀ (i k : Nat) (z : Int) (V : Value) (l : List Int), z = (i : Int) - 1 → BV V l → l.length + i ≤ 1048576 → i ≤ 8 → i < k → ∃ V', runT [] put_f k 1 [.int .u64 n, .int .i64 z] [V] = some (noL, [V']) ∧ BV V' (l ++ be n i) := by
  intro i
  induction i with
  | zero =>
    intro k z V l hz hV _ _ hk
    subst hz
    refine ⟨V, ?_, by simpa [be] using hV⟩
    obtain ⟨k, rfl⟩ : ∃ j, k = j + 1 := ⟨k - 1, by omega⟩
    exact Eq.trans (CFn.step _ rfl) rfl
  | succ i ih =>
    intro k z V l hz hV hn h8 hk
    obtain rfl : z = (i : Int) := by omega
    obtain ⟨k, rfl⟩ : ∃ j, k = j + 1 := ⟨k - 1, by omega⟩
    obtain ⟨V', e, hV'⟩ := ih k ((i : Int) - 1) _ (l ++ [byV n i]) rfl (BV.lv _) (by rw [List.length_append]; simp; omega) (by omega) (by omega)
    refine ⟨V', ?_, by simpa [be] using hV'⟩
    refine Eq.trans (CFn.step _ rfl) ?_
    refine Eq.trans (evK_t (decide ((i : Int) ≥ 0)) rfl) ?_
    rw [decide_eq_true (by omega : (i : Int) ≥ 0), cond_true]
    refine Eq.trans (evK_d (.int .i64 (8 * (i : Int))) (by
      show some (Value.int .i64 (IntKind.i64.wrap (8 * (i : Int)))) = _
      rw [wrap_in (by unfold i64R; omega)])) ?_
    refine Eq.trans (evK_d (.int .u64 (8 * (i : Int))) (by
      show some (Value.int .u64 (IntKind.u64.wrap (8 * (i : Int)))) = _
      rw [wrapU64, Int.emod_eq_of_lt (by omega) (by omega)])) ?_
    refine Eq.trans (evK_d (.int .u64 (shV n i)) (shr_sev n i (by omega))) ?_
    refine Eq.trans (evK_d (.int .u8 (byV n i)) rfl) ?_
    refine Eq.trans (evK_e (Eng.lv (rowB (l ++ [byV n i]))) (app1 hV (by omega) _) rfl) ?_
    refine Eq.trans (evK_d (.int .i64 ((i : Int) - 1)) (by
      show some (Value.int .i64 (IntKind.i64.wrap ((i : Int) - 1))) = _
      rw [wrap_in (by unfold i64R; omega)])) ?_
    exact e
theorem put_cF (l k : List Value) : put_c.F l k = CFn.F (P := Tryz.prog) [] put_f l k := rfl
theorem put_F (n : Int) (i : Nat) {V : Value} {l : List Int} (hV : BV V l) (hn : l.length + i ≤ 1048576) (h8 : i ≤ 8) : ∃ V', put_c.F [.int .u64 n, .int .i64 (i : Int)] [V] = some (noL, [V']) ∧ BV V' (l ++ be n i) := by
  obtain ⟨V', e, h⟩ := put_1 n i (i + 1) ((i : Int) - 1) V l rfl hV hn h8 (by omega)
  refine ⟨V', ?_, h⟩
  rw [put_cF]
  refine CFn.begin (i + 2) (by unfold manyK; omega) ?_
  refine Eq.trans (CFn.step _ rfl) ?_
  refine Eq.trans (evK_d (.int .i64 ((i : Int) - 1)) (by
    show some (Value.int .i64 (IntKind.i64.wrap ((i : Int) - 1))) = _
    rw [wrap_in (by unfold i64R; omega)])) ?_
  exact e
def u64 (n : Int) : Int := IntKind.u64.wrap n
def fl (f : Bool) : Int := bif f then 1 else 0
def numB (x : Int) (f : Bool) : List Int := be (u64 x) 8 ++ [fl f]
theorem numB_len (x : Int) (f : Bool) : (numB x f).length = 9 := by unfold numB; rw [List.length_append, be_len]; rfl
theorem putNum_cF (l k : List Value) : putNum_c.F l k = CFn.F (P := Tryz.prog) [put_c] putNum_f l k := by kernel_rfl
theorem putNum_F (x : Int) (f : Bool) {V : Value} {l : List Int} (hV : BV V l) (hn : l.length + 9 ≤ 1048576) : ∃ V', putNum_c.F [.int .i64 x, .bool f] [V] = some (noL, [V']) ∧ BV V' (l ++ numB x f) := by
  obtain ⟨V1, e, h1⟩ := put_F (u64 x) 8 hV (by omega) (by omega)
  have hl : (l ++ be (u64 x) 8).length + 1 ≤ 1048576 := by rw [List.length_append, be_len]; omega
  refine ⟨Eng.lv (rowB (l ++ be (u64 x) 8 ++ [fl f])), ?_, by rw [numB, ← List.append_assoc]; exact BV.lv _⟩
  rw [putNum_cF]
  refine CFn.flat (cs := [put_c]) (F := putNum_f) _ rfl ?_
  refine Eq.trans (evK_d (.int .u64 (u64 x)) rfl) ?_
  refine Eq.trans (evK_c noL [V1] rfl e) ?_
  refine Eq.trans (evK_t f rfl) ?_
  cases f with
  | true =>
    rw [cond_true]
    exact evK_e _ (app1 h1 hl 1) rfl
  | false =>
    rw [cond_false]
    exact evK_e _ (app1 h1 hl 0) rfl
/-- bytes as a string -/
def toL (l : List Int) : List UInt8 := l.map fun n => UInt8.ofNat n.toNat
def toS (l : List Int) : Value := .string ⟨⟨toL l⟩⟩
theorem add_sev {l m : List Int} (h : l.length + m.length ≤ 1152921504606846976) : sev (.bin .add) [toS l, toS m] = some (toS (l ++ m)) := by
  have h1 : Nat.ble ((toL l).length + (toL m).length) 1152921504606846976 = true := by
    refine Nat.ble_eq_true_of_le ?_
    rw [toL, toL, List.length_map, List.length_map]
    exact h
  show (bif Nat.ble ((toL l).length + (toL m).length) 1152921504606846976 then some (Value.string ⟨⟨toL l ++ toL m⟩⟩) else none) = _
  rw [h1, cond_true]
  unfold toS toL
  rw [List.map_append]
def u8 (n : Int) : Int := IntKind.u8.wrap n
end Go.Proofs.YtfcjlgdpdomoeaaGreat.U
