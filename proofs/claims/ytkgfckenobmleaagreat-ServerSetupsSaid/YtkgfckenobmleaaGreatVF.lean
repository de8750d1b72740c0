/- ServerSetups: numbers as bytes. -/
import Derived.Test.YtkgfckenobmleaaGreatVE
import Derived.Test.YtkgfckenobmleaaGreatEngS4
set_option linter.unusedSimpArgs false
set_option linter.unusedVariables false
namespace Go.Proofs.YtkgfckenobmleaaGreat.U
open Go Go.Eng
theorem wrap_in {n : Int} (h : i64R n) : IntKind.i64.wrap n = n := IntWalk.i64_in n h
theorem inc_sev {i : Nat} {n : Nat} (h : i < n) (hn : n ≤ 9223372036854775807) : sev (.bin .add) [.int .i64 (i : Int), .int .i64 1] = some (.int .i64 ((i + 1 : Nat) : Int)) := by
  show some (Value.int .i64 (IntKind.i64.wrap ((i : Int) + 1))) = _
  rw [wrap_in (by unfold i64R; omega)]
  rfl
abbrev runT (cs : List (Ctr Tryz.prog)) (F : CFn) (k i : Nat) (ss ls : List Value) := CFn.run (P := Tryz.prog) cs F k i (envL ss ls)
theorem wrapU64 (n : Int) : IntKind.u64.wrap n = n % 18446744073709551616 := by simp [IntKind.wrap, IntKind.bits, IntKind.signed]
/-- a number's byte -/
def shV (n : Int) (i : Nat) : Int := n.fdiv (2 ^ (8 * i))
def byV (n : Int) (i : Nat) : Int := IntKind.u8.wrap (shV n i)
/-- the lowest bytes of a number, the highest first -/
def be (n : Int) : Nat → List Int
  | 0 => []
  | k + 1 => byV n k :: be n k
theorem be_len (n : Int) : ∀ k, (be n k).length = k
  | 0 => rfl
  | k + 1 => by rw [be, List.length_cons, be_len n k]
def rowB (l : List Int) : List (List Value) := l.map fun n => [.int .u8 n]
/-- a list of bytes as a deep value -/
def BV (V : Value) (l : List Int) : Prop := lrows V = some (rowB l)
theorem BV.nil : BV (.slice none 0 0) [] := rfl
theorem BV.lv (l : List Int) : BV (Eng.lv (rowB l)) l := lrows_lv _
theorem rowB_app (l m : List Int) : rowB l ++ rowB m = rowB (l ++ m) := by simp [rowB]
theorem app1 {V : Value} {l : List Int} (h : BV V l) (hn : l.length + 1 ≤ 1048576) (b : Int) : lsev (.app 1) [V, .int .u8 b] = some (Eng.lv (rowB (l ++ [b]))) := by
  have h1 : Nat.ble ((rowB l).length + [Value.int .u8 b].length) 1048576 = true := by
    refine Nat.ble_eq_true_of_le ?_
    rw [rowB, List.length_map]
    exact hn
  have h2 : lrows V = some (rowB l) := h
  have h5 : Nat.beq ([Value.int .u8 b].length % 1) 0 = true := by rw [Nat.mod_one]; rfl
  simp only [lsev, h2, h1, h5]
  rw [← rowB_app]
  rfl
theorem shr_sev (n : Int) : ∀ i : Nat, i ≤ 7 → sev (.bin .shr) [.int .u64 n, .int .u64 (8 * (i : Int))] = some (.int .u64 (shV n i))
  | 0, _ => rfl
  | 1, _ => rfl
  | 2, _ => rfl
  | 3, _ => rfl
  | 4, _ => rfl
  | 5, _ => rfl
  | 6, _ => rfl
  | 7, _ => rfl
  | _ + 8, h => by omega
def u64 (n : Int) : Int := IntKind.u64.wrap n
/-- bytes as a string -/
def toL (l : List Int) : List UInt8 := l.map fun n => UInt8.ofNat n.toNat
def toS (l : List Int) : Value := .string ⟨⟨toL l⟩⟩
theorem add_sev {l m : List Int} (h : l.length + m.length ≤ 1152921504606846976) : sev (.bin .add) [toS l, toS m] = some (toS (l ++ m)) := by
  have h1 : Nat.ble ((toL l).length + (toL m).length) 1152921504606846976 = true := by
    refine Nat.ble_eq_true_of_le ?_
    rw [toL, toL, List.length_map, List.length_map]
    exact h
  show (bif Nat.ble ((toL l).length + (toL m).length) 1152921504606846976 then some (Value.string ⟨⟨toL l ++ toL m⟩⟩) else none) = _
  rw [h1, cond_true]
  unfold toS toL
  rw [List.map_append]
theorem b1_of : ∀ (xs : List Value) (l : List Int), aggs xs = some (rowB l) → b1 xs = some (toL l) := by
  intro xs
  induction xs with
  | nil =>
    intro l h
    cases l with
    | nil => rfl
    | cons => simp [aggs, rowB] at h
  | cons v t ih =>
    intro l h
    cases v <;> try (simp [aggs] at h; done)
    rename_i r
    simp only [aggs, Option.map_eq_some_iff] at h
    obtain ⟨u, h1, h2⟩ := h
    cases l with
    | nil => simp [rowB] at h2
    | cons n l =>
      simp only [rowB, List.map_cons, List.cons.injEq] at h2
      obtain ⟨h2, rfl⟩ := h2
      simp only [b1, h2, ih l h1]
      rfl
theorem tos_sev {V : Value} {l : List Int} (h : BV V l) : lsev .tos [V] = some (toS l) := by
  unfold BV lrows at h
  split at h
  · cases l with
    | nil => rfl
    | cons => simp [rowB] at h
  · rename_i rs
    show (b1 rs.toList).map (fun bs => Value.string ⟨⟨bs⟩⟩) = _
    rw [b1_of _ _ h]
    rfl
  · cases h
theorem int1_nat (i : Nat) : int1 (.int .i64 (i : Int)) = some i := by
  show (bif decide ((0 : Int) ≤ (i : Int)) then some ((i : Int).toNat) else none) = _
  rw [decide_eq_true (by omega), Int.toNat_natCast]
  rfl
end Go.Proofs.YtkgfckenobmleaaGreat.U
