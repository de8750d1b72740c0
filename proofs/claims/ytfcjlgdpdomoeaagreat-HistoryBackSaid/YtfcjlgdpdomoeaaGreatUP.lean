/- HistoryRead: scripts cut into pieces, by both. -/
import Derived.Test.YtfcjlgdpdomoeaaGreatUO
set_option linter.unusedSimpArgs false
set_option linter.unusedVariables false
namespace Go.Proofs.YtfcjlgdpdomoeaaGreat.U
open Go Go.Eng
/-- a list of integers as a deep value -/
def IV (V : Value) (c : List Int) : Prop := lrows V = some (c.map fun n => [.int .i64 n])
/-- a list of ops as a deep value, its rows alone -/
def OV (V : Value) (l : List OpV) : Prop := lrows V = some (l.map opL)
/-- a list of ops that grows from nothing -/
def outV (l : List OpV) : Value := match l with
  | [] => .slice none 0 0
  | _ :: _ => Eng.lv (l.map opL)
theorem OV.out : ∀ l : List OpV, OV (outV l) l
  | [] => rfl
  | _ :: _ => lrows_lv _
theorem outV_app (l : List OpV) (o : OpV) : outV (l ++ [o]) = Eng.lv ((l ++ [o]).map opL) := by
  cases l <;> rfl
theorem IV.len {V : Value} {c : List Int} (h : IV V c) : lsev .len [V] = some (.int .i64 (c.length : Int)) := by
  have h' : lrows V = some (c.map fun n => [.int .i64 n]) := h
  simp only [lsev, h', Option.map_some, List.length_map]
  rfl
theorem OV.len {V : Value} {l : List OpV} (h : OV V l) : lsev .len [V] = some (.int .i64 (l.length : Int)) := by
  have h' : lrows V = some (l.map opL) := h
  simp only [lsev, h', Option.map_some, List.length_map]
  rfl
theorem int1_nat (i : Nat) : int1 (.int .i64 (i : Int)) = some i := by
  show (bif decide ((0 : Int) ≤ (i : Int)) then some ((i : Int).toNat) else none) = _
  rw [decide_eq_true (by omega), Int.toNat_natCast]
  rfl
def plI (n : Int) : Value := .iface 0 (.agg ⟨[.int .i64 n]⟩)
theorem IV.elem {V : Value} {c : List Int} (h : IV V c) {i : Nat} {n : Int} (hi : c[i]? = some n) : lsev (.iad 1) [V, .int .i64 (i : Int)] = some (plI n) := by
  have h' : lrows V = some (c.map fun n => [.int .i64 n]) := h
  have h2 : (c.map fun n => [Value.int .i64 n])[i]? = some [.int .i64 n] := by rw [List.getElem?_map, hi]; rfl
  simp only [lsev, h', int1_nat, h2]
  rfl
theorem app4 {l : List OpV} (hn : l.length + 4 ≤ 1048576) (o : OpV) : lsev (.app 4) (outV l :: opL o) = some (outV (l ++ [o])) := by
  have h1 : Nat.ble ((l.map opL).length + (opL o).length) 1048576 = true := by
    refine Nat.ble_eq_true_of_le ?_
    rw [List.length_map]
    exact hn
  have h2 : lrows (outV l) = some (l.map opL) := OV.out l
  have hl : (opL o).length = 4 := rfl
  have h5 : Nat.beq ((opL o).length % 4) 0 = true := by rw [hl]; rfl
  rw [outV_app]
  simp only [lsev, h2, h1, h5]
  rw [List.map_append]
  rfl
def totB : List OpV → Nat
  | [] => 0
  | o :: r => o.b.size + totB r
theorem totB_take (l : List OpV) : ∀ i, i ≤ l.length → totAt l i + totB (l.drop i) = totB l := by
  intro i
  induction i with
  | zero => intro _; simp [totAt]
  | succ i ih =>
    intro hi
    have h1 := ih (by omega)
    rw [List.drop_eq_getElem_cons (by omega : i < l.length)] at h1
    have h2 := totAt_succ (getI (l := l) (i := i) (by omega))
    rw [h2]
    simp only [totB] at h1
    omega
/-- what may stand for a setup that nobody looks at -/
def zeroL : List Value := [.int .i64 0, .bool false, .int .i64 0, .bool false, .int .i64 0, .bool false, .int .i64 0, .int .i64 0, .int .i64 0, .int .i64 0, .int .i64 0]
theorem rem_sev {n m : Nat} (h : 0 < m) : sev (.bin .rem) [.int .i64 (n : Int), .int .i64 (m : Int)] = some (.int .i64 ((n % m : Nat) : Int)) := by
  show pureSem (Op.intDiv .rem .i64 (n : Int) (m : Int)) = _
  unfold Op.intDiv
  rw [if_neg (by omega)]
  show some (Value.int .i64 ((n : Int).tmod (m : Int))) = _
  rw [Int.tmod_eq_emod_of_nonneg (by omega)]
  rfl
theorem min_sev (a b : Int) : sev (.mm false) [.int .i64 a, .int .i64 b] = some (.int .i64 (min a b)) := by
  show some (Value.int .i64 (bif false then _ else (if b < a then b else a))) = _
  rw [cond_false, Int.min_def]
  congr 2
  split <;> split <;> omega
theorem sub_to (t : List UInt8) (m : Nat) (h : m ≤ t.length) : sev (.ssub false true) [.string ⟨⟨t⟩⟩, .int .i64 0, .int .i64 (m : Int)] = some (.string ⟨⟨t.take m⟩⟩) := by
  show (bif decide ((0 : Int) ≤ 0) && decide ((0 : Int) ≤ (m : Int)) && decide ((m : Int) ≤ (t.length : Int)) then some (Value.string ⟨⟨(t.drop (0 : Int).toNat).take ((m : Int).toNat - (0 : Int).toNat)⟩⟩) else none) = _
  rw [decide_eq_true (by omega), decide_eq_true (by omega), decide_eq_true (by omega)]
  simp
theorem sub_from (t : List UInt8) (m : Nat) (h : m ≤ t.length) : sev (.ssub true false) [.string ⟨⟨t⟩⟩, .int .i64 (m : Int), .int .i64 0] = some (.string ⟨⟨t.drop m⟩⟩) := by
  show (bif decide ((0 : Int) ≤ (m : Int)) && decide ((m : Int) ≤ (t.length : Int)) && decide ((t.length : Int) ≤ (t.length : Int)) then some (Value.string ⟨⟨(t.drop (m : Int).toNat).take ((t.length : Int).toNat - (m : Int).toNat)⟩⟩) else none) = _
  rw [decide_eq_true (by omega), decide_eq_true (by omega), decide_eq_true (by omega)]
  simp only [Bool.and_self, cond_true, Int.toNat_natCast]
  rw [List.take_of_length_le (by rw [List.length_drop]; omega)]
theorem ne_sev (t : List UInt8) : sev (.bin .neq) [.string ⟨⟨t⟩⟩, .string ⟨⟨[]⟩⟩] = some (.bool (!(t == []))) := rfl
theorem eq_sev (t : ByteArray) : sev (.bin .eql) [.string t, .string ⟨⟨[]⟩⟩] = some (.bool (t.data.toList == [])) := rfl
end Go.Proofs.YtfcjlgdpdomoeaaGreat.U
