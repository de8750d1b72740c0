/- The engine: a deterministic run of the model's code on a logical memory, proved sound against 'Calls' (part 1). No condition. -/
import Derived.Orders
import Derived.Laws.StructEq
import Derived.Laws.Tables
import Derived.Laws.Rows
import Derived.Laws.Cells
import Derived.Laws.AppendOwn
import Derived.ChangeKeysEq
set_option linter.unusedSimpArgs false
set_option linter.unusedVariables false
/- Trees of sixteen branches, read by projections: what the kernel is quick at. -/
namespace Go.Eng

structure N16 (α : Type) where
  c0 : α
  c1 : α
  c2 : α
  c3 : α
  c4 : α
  c5 : α
  c6 : α
  c7 : α
  c8 : α
  c9 : α
  c10 : α
  c11 : α
  c12 : α
  c13 : α
  c14 : α
  c15 : α

inductive Sel where
  | s0
  | s1
  | s2
  | s3
  | s4
  | s5
  | s6
  | s7
  | s8
  | s9
  | s10
  | s11
  | s12
  | s13
  | s14
  | s15

def N16.all {α : Type} (a : α) : N16 α := ⟨a, a, a, a, a, a, a, a, a, a, a, a, a, a, a, a⟩

noncomputable def N16.g0 {α : Type} (n : N16 α) : α := N16.rec (motive := fun _ => α) (fun c0 _ _ _ _ _ _ _ _ _ _ _ _ _ _ _ => c0) n
noncomputable def N16.g1 {α : Type} (n : N16 α) : α := N16.rec (motive := fun _ => α) (fun _ c1 _ _ _ _ _ _ _ _ _ _ _ _ _ _ => c1) n
noncomputable def N16.g2 {α : Type} (n : N16 α) : α := N16.rec (motive := fun _ => α) (fun _ _ c2 _ _ _ _ _ _ _ _ _ _ _ _ _ => c2) n
noncomputable def N16.g3 {α : Type} (n : N16 α) : α := N16.rec (motive := fun _ => α) (fun _ _ _ c3 _ _ _ _ _ _ _ _ _ _ _ _ => c3) n
noncomputable def N16.g4 {α : Type} (n : N16 α) : α := N16.rec (motive := fun _ => α) (fun _ _ _ _ c4 _ _ _ _ _ _ _ _ _ _ _ => c4) n
noncomputable def N16.g5 {α : Type} (n : N16 α) : α := N16.rec (motive := fun _ => α) (fun _ _ _ _ _ c5 _ _ _ _ _ _ _ _ _ _ => c5) n
noncomputable def N16.g6 {α : Type} (n : N16 α) : α := N16.rec (motive := fun _ => α) (fun _ _ _ _ _ _ c6 _ _ _ _ _ _ _ _ _ => c6) n
noncomputable def N16.g7 {α : Type} (n : N16 α) : α := N16.rec (motive := fun _ => α) (fun _ _ _ _ _ _ _ c7 _ _ _ _ _ _ _ _ => c7) n
noncomputable def N16.g8 {α : Type} (n : N16 α) : α := N16.rec (motive := fun _ => α) (fun _ _ _ _ _ _ _ _ c8 _ _ _ _ _ _ _ => c8) n
noncomputable def N16.g9 {α : Type} (n : N16 α) : α := N16.rec (motive := fun _ => α) (fun _ _ _ _ _ _ _ _ _ c9 _ _ _ _ _ _ => c9) n
noncomputable def N16.g10 {α : Type} (n : N16 α) : α := N16.rec (motive := fun _ => α) (fun _ _ _ _ _ _ _ _ _ _ c10 _ _ _ _ _ => c10) n
noncomputable def N16.g11 {α : Type} (n : N16 α) : α := N16.rec (motive := fun _ => α) (fun _ _ _ _ _ _ _ _ _ _ _ c11 _ _ _ _ => c11) n
noncomputable def N16.g12 {α : Type} (n : N16 α) : α := N16.rec (motive := fun _ => α) (fun _ _ _ _ _ _ _ _ _ _ _ _ c12 _ _ _ => c12) n
noncomputable def N16.g13 {α : Type} (n : N16 α) : α := N16.rec (motive := fun _ => α) (fun _ _ _ _ _ _ _ _ _ _ _ _ _ c13 _ _ => c13) n
noncomputable def N16.g14 {α : Type} (n : N16 α) : α := N16.rec (motive := fun _ => α) (fun _ _ _ _ _ _ _ _ _ _ _ _ _ _ c14 _ => c14) n
noncomputable def N16.g15 {α : Type} (n : N16 α) : α := N16.rec (motive := fun _ => α) (fun _ _ _ _ _ _ _ _ _ _ _ _ _ _ _ c15 => c15) n
noncomputable def N16.s0 {α : Type} (n : N16 α) (v : α) : N16 α := N16.rec (motive := fun _ => N16 α) (fun _ c1 c2 c3 c4 c5 c6 c7 c8 c9 c10 c11 c12 c13 c14 c15 => ⟨v, c1, c2, c3, c4, c5, c6, c7, c8, c9, c10, c11, c12, c13, c14, c15⟩) n
noncomputable def N16.s1 {α : Type} (n : N16 α) (v : α) : N16 α := N16.rec (motive := fun _ => N16 α) (fun c0 _ c2 c3 c4 c5 c6 c7 c8 c9 c10 c11 c12 c13 c14 c15 => ⟨c0, v, c2, c3, c4, c5, c6, c7, c8, c9, c10, c11, c12, c13, c14, c15⟩) n
noncomputable def N16.s2 {α : Type} (n : N16 α) (v : α) : N16 α := N16.rec (motive := fun _ => N16 α) (fun c0 c1 _ c3 c4 c5 c6 c7 c8 c9 c10 c11 c12 c13 c14 c15 => ⟨c0, c1, v, c3, c4, c5, c6, c7, c8, c9, c10, c11, c12, c13, c14, c15⟩) n
noncomputable def N16.s3 {α : Type} (n : N16 α) (v : α) : N16 α := N16.rec (motive := fun _ => N16 α) (fun c0 c1 c2 _ c4 c5 c6 c7 c8 c9 c10 c11 c12 c13 c14 c15 => ⟨c0, c1, c2, v, c4, c5, c6, c7, c8, c9, c10, c11, c12, c13, c14, c15⟩) n
noncomputable def N16.s4 {α : Type} (n : N16 α) (v : α) : N16 α := N16.rec (motive := fun _ => N16 α) (fun c0 c1 c2 c3 _ c5 c6 c7 c8 c9 c10 c11 c12 c13 c14 c15 => ⟨c0, c1, c2, c3, v, c5, c6, c7, c8, c9, c10, c11, c12, c13, c14, c15⟩) n
noncomputable def N16.s5 {α : Type} (n : N16 α) (v : α) : N16 α := N16.rec (motive := fun _ => N16 α) (fun c0 c1 c2 c3 c4 _ c6 c7 c8 c9 c10 c11 c12 c13 c14 c15 => ⟨c0, c1, c2, c3, c4, v, c6, c7, c8, c9, c10, c11, c12, c13, c14, c15⟩) n
noncomputable def N16.s6 {α : Type} (n : N16 α) (v : α) : N16 α := N16.rec (motive := fun _ => N16 α) (fun c0 c1 c2 c3 c4 c5 _ c7 c8 c9 c10 c11 c12 c13 c14 c15 => ⟨c0, c1, c2, c3, c4, c5, v, c7, c8, c9, c10, c11, c12, c13, c14, c15⟩) n
noncomputable def N16.s7 {α : Type} (n : N16 α) (v : α) : N16 α := N16.rec (motive := fun _ => N16 α) (fun c0 c1 c2 c3 c4 c5 c6 _ c8 c9 c10 c11 c12 c13 c14 c15 => ⟨c0, c1, c2, c3, c4, c5, c6, v, c8, c9, c10, c11, c12, c13, c14, c15⟩) n
noncomputable def N16.s8 {α : Type} (n : N16 α) (v : α) : N16 α := N16.rec (motive := fun _ => N16 α) (fun c0 c1 c2 c3 c4 c5 c6 c7 _ c9 c10 c11 c12 c13 c14 c15 => ⟨c0, c1, c2, c3, c4, c5, c6, c7, v, c9, c10, c11, c12, c13, c14, c15⟩) n
noncomputable def N16.s9 {α : Type} (n : N16 α) (v : α) : N16 α := N16.rec (motive := fun _ => N16 α) (fun c0 c1 c2 c3 c4 c5 c6 c7 c8 _ c10 c11 c12 c13 c14 c15 => ⟨c0, c1, c2, c3, c4, c5, c6, c7, c8, v, c10, c11, c12, c13, c14, c15⟩) n
noncomputable def N16.s10 {α : Type} (n : N16 α) (v : α) : N16 α := N16.rec (motive := fun _ => N16 α) (fun c0 c1 c2 c3 c4 c5 c6 c7 c8 c9 _ c11 c12 c13 c14 c15 => ⟨c0, c1, c2, c3, c4, c5, c6, c7, c8, c9, v, c11, c12, c13, c14, c15⟩) n
noncomputable def N16.s11 {α : Type} (n : N16 α) (v : α) : N16 α := N16.rec (motive := fun _ => N16 α) (fun c0 c1 c2 c3 c4 c5 c6 c7 c8 c9 c10 _ c12 c13 c14 c15 => ⟨c0, c1, c2, c3, c4, c5, c6, c7, c8, c9, c10, v, c12, c13, c14, c15⟩) n
noncomputable def N16.s12 {α : Type} (n : N16 α) (v : α) : N16 α := N16.rec (motive := fun _ => N16 α) (fun c0 c1 c2 c3 c4 c5 c6 c7 c8 c9 c10 c11 _ c13 c14 c15 => ⟨c0, c1, c2, c3, c4, c5, c6, c7, c8, c9, c10, c11, v, c13, c14, c15⟩) n
noncomputable def N16.s13 {α : Type} (n : N16 α) (v : α) : N16 α := N16.rec (motive := fun _ => N16 α) (fun c0 c1 c2 c3 c4 c5 c6 c7 c8 c9 c10 c11 c12 _ c14 c15 => ⟨c0, c1, c2, c3, c4, c5, c6, c7, c8, c9, c10, c11, c12, v, c14, c15⟩) n
noncomputable def N16.s14 {α : Type} (n : N16 α) (v : α) : N16 α := N16.rec (motive := fun _ => N16 α) (fun c0 c1 c2 c3 c4 c5 c6 c7 c8 c9 c10 c11 c12 c13 _ c15 => ⟨c0, c1, c2, c3, c4, c5, c6, c7, c8, c9, c10, c11, c12, c13, v, c15⟩) n
noncomputable def N16.s15 {α : Type} (n : N16 α) (v : α) : N16 α := N16.rec (motive := fun _ => N16 α) (fun c0 c1 c2 c3 c4 c5 c6 c7 c8 c9 c10 c11 c12 c13 c14 _ => ⟨c0, c1, c2, c3, c4, c5, c6, c7, c8, c9, c10, c11, c12, c13, c14, v⟩) n

noncomputable def N16.get {α : Type} (n : N16 α) (s : Sel) : α :=
  Sel.rec (motive := fun _ => N16 α → α) N16.g0 N16.g1 N16.g2 N16.g3 N16.g4 N16.g5 N16.g6 N16.g7 N16.g8 N16.g9 N16.g10 N16.g11 N16.g12 N16.g13 N16.g14 N16.g15 s n

noncomputable def N16.set {α : Type} (n : N16 α) (s : Sel) (v : α) : N16 α :=
  Sel.rec (motive := fun _ => N16 α → α → N16 α) N16.s0 N16.s1 N16.s2 N16.s3 N16.s4 N16.s5 N16.s6 N16.s7 N16.s8 N16.s9 N16.s10 N16.s11 N16.s12 N16.s13 N16.s14 N16.s15 s n v

def selNum : Sel → Nat
  | .s0 => 0
  | .s1 => 1
  | .s2 => 2
  | .s3 => 3
  | .s4 => 4
  | .s5 => 5
  | .s6 => 6
  | .s7 => 7
  | .s8 => 8
  | .s9 => 9
  | .s10 => 10
  | .s11 => 11
  | .s12 => 12
  | .s13 => 13
  | .s14 => 14
  | .s15 => 15

instance selDec : DecidableEq Sel := fun a b => if h : selNum a = selNum b then .isTrue (by cases a <;> cases b <;> first | rfl | (simp [selNum] at h)) else .isFalse (fun e => h (by rw [e]))

theorem N16.get_set {α : Type} (n : N16 α) (s t : Sel) (v : α) : (n.set s v).get t = if s = t then v else n.get t := by
  cases n; cases s <;> cases t <;> rfl

theorem N16.get_all {α : Type} (a : α) (s : Sel) : (N16.all a).get s = a := by cases s <;> rfl

noncomputable def bitR {α : Type} (n k : Nat) (a b : α) : α := Bool.rec (motive := fun _ => α) b a (Nat.beq (Nat.land n k) 0)

/-- the branch for the lowest digit -/
noncomputable def toSel (n : Nat) : Sel := (bitR n 8 (bitR n 4 (bitR n 2 (bitR n 1 .s0 .s1) (bitR n 1 .s2 .s3)) (bitR n 2 (bitR n 1 .s4 .s5) (bitR n 1 .s6 .s7))) (bitR n 4 (bitR n 2 (bitR n 1 .s8 .s9) (bitR n 1 .s10 .s11)) (bitR n 2 (bitR n 1 .s12 .s13) (bitR n 1 .s14 .s15))))

theorem land_mod (n k : Nat) (h : k ∈ [1, 2, 4, 8]) : Nat.land n k = Nat.land (n % 16) k := by
  show n &&& k = (n % 16) &&& k
  apply Nat.eq_of_testBit_eq
  intro i
  rw [Nat.testBit_and, Nat.testBit_and, show (16 : Nat) = 2 ^ 4 from rfl, Nat.testBit_mod_two_pow]
  by_cases hi : i < 4
  · simp [hi]
  · have : k.testBit i = false := by
      apply Nat.testBit_lt_two_pow
      have h16 : (2 : Nat) ^ 4 ≤ 2 ^ i := Nat.pow_le_pow_right (by omega) (by omega)
      simp only [List.mem_cons, List.not_mem_nil, or_false] at h
      rcases h with rfl | rfl | rfl | rfl <;> omega
    simp [this]

theorem toSel_mod (n : Nat) : toSel n = toSel (n % 16) := by
  unfold toSel bitR
  rw [land_mod n 8 (by simp), land_mod n 4 (by simp), land_mod n 2 (by simp), land_mod n 1 (by simp)]

theorem selNum_toSel (n : Nat) (h : n < 16) : selNum (toSel n) = n := by
  match n, h with
  | 0, _ => rfl
  | 1, _ => rfl
  | 2, _ => rfl
  | 3, _ => rfl
  | 4, _ => rfl
  | 5, _ => rfl
  | 6, _ => rfl
  | 7, _ => rfl
  | 8, _ => rfl
  | 9, _ => rfl
  | 10, _ => rfl
  | 11, _ => rfl
  | 12, _ => rfl
  | 13, _ => rfl
  | 14, _ => rfl
  | 15, _ => rfl
  | n + 16, h => omega

theorem toSel_inj (n m : Nat) : toSel n = toSel m ↔ n % 16 = m % 16 := by
  constructor
  · intro h
    rw [toSel_mod n, toSel_mod m] at h
    have h' := congrArg selNum h
    rwa [selNum_toSel _ (Nat.mod_lt _ (by omega)), selNum_toSel _ (Nat.mod_lt _ (by omega))] at h'
  · intro h
    rw [toSel_mod n, toSel_mod m, h]

/- two digits: a frame -/
abbrev TF (α : Type) := N16 (N16 (Option α))

def TF.lf {α : Type} (v : Option α) : TF α := N16.all (N16.all v)
noncomputable def TF.get {α : Type} (t : TF α) (n : Nat) : Option α := N16.get (N16.get t (toSel n)) (toSel (Nat.div n 16))
noncomputable def TF.set {α : Type} (t : TF α) (n : Nat) (v : α) : TF α := N16.set t (toSel n) (N16.set (N16.get t (toSel n)) (toSel (Nat.div n 16)) (some v))

theorem TF.get_lf {α : Type} (v : Option α) (n : Nat) : TF.get (TF.lf v) n = v := by
  unfold TF.get TF.lf; rw [N16.get_all, N16.get_all]

theorem TF.get_set {α : Type} (t : TF α) (n m : Nat) (v : α) : TF.get (TF.set t n v) m = if n % 256 = m % 256 then some v else TF.get t m := by
  unfold TF.get TF.set
  rw [N16.get_set]
  by_cases h0 : toSel n = toSel m
  · rw [if_pos h0, N16.get_set, h0]
    have h0' := (toSel_inj n m).1 h0
    by_cases h1 : toSel (Nat.div n 16) = toSel (Nat.div m 16)
    · have h1' : n / 16 % 16 = m / 16 % 16 := (toSel_inj _ _).1 h1
      rw [if_pos h1, if_pos (by omega)]
    · have h1' : ¬ n / 16 % 16 = m / 16 % 16 := fun h => h1 ((toSel_inj _ _).2 h)
      rw [if_neg h1, if_neg (by omega)]
  · have h0' : ¬ n % 16 = m % 16 := fun h => h0 ((toSel_inj _ _).2 h)
    rw [if_neg h0, if_neg (by omega)]

/- a frame: two halves of two digits -/
structure FT (α : Type) where
  lo : TF α
  hi : TF α

def FT.lf {α : Type} (v : Option α) : FT α := ⟨TF.lf v, TF.lf v⟩
noncomputable def FT.get {α : Type} (t : FT α) (n : Nat) : Option α :=
  FT.rec (motive := fun _ => Option α) (fun lo hi => Bool.rec (motive := fun _ => Option α) (TF.get hi n) (TF.get lo n) (Nat.blt n 256)) t
noncomputable def FT.set {α : Type} (t : FT α) (n : Nat) (v : α) : FT α :=
  FT.rec (motive := fun _ => FT α) (fun lo hi => Bool.rec (motive := fun _ => FT α) ⟨lo, TF.set hi n v⟩ ⟨TF.set lo n v, hi⟩ (Nat.blt n 256)) t

theorem FT.get_lf {α : Type} (v : Option α) (n : Nat) : FT.get (FT.lf v) n = v := by
  show Bool.rec (motive := fun _ => Option α) (TF.get (TF.lf v) n) (TF.get (TF.lf v) n) (Nat.blt n 256) = v
  cases Nat.blt n 256 <;> exact TF.get_lf v n

theorem FT.get_set {α : Type} (t : FT α) (n m : Nat) (v : α) (hn : n < 512) (hm : m < 512) : FT.get (FT.set t n v) m = if n = m then some v else FT.get t m := by
  obtain ⟨lo, hi⟩ := t
  show FT.get (Bool.rec (motive := fun _ => FT α) ⟨lo, TF.set hi n v⟩ ⟨TF.set lo n v, hi⟩ (Nat.blt n 256)) m = if n = m then some v else Bool.rec (motive := fun _ => Option α) (TF.get hi m) (TF.get lo m) (Nat.blt m 256)
  have hb : ∀ k, Nat.blt k 256 = true → k < 256 := fun k h => Nat.le_of_ble_eq_true h
  have hb' : ∀ k, Nat.blt k 256 = false → 256 ≤ k := fun k h => by
    rcases Nat.lt_or_ge k 256 with h' | h'
    · have : Nat.blt k 256 = true := Nat.ble_eq_true_of_le h'
      rw [this] at h; cases h
    · exact h'
  cases h1 : Nat.blt n 256 <;> cases h2 : Nat.blt m 256
  · show Bool.rec (motive := fun _ => Option α) (TF.get (TF.set hi n v) m) (TF.get lo m) (Nat.blt m 256) = _
    rw [h2]
    show TF.get (TF.set hi n v) m = if n = m then some v else TF.get hi m
    rw [TF.get_set]
    have := hb' n h1; have := hb' m h2
    by_cases he : n = m
    · rw [if_pos he, if_pos (by rw [he])]
    · rw [if_neg he, if_neg (by omega)]
  · show Bool.rec (motive := fun _ => Option α) (TF.get (TF.set hi n v) m) (TF.get lo m) (Nat.blt m 256) = _
    rw [h2]
    have := hb' n h1; have := hb m h2
    rw [if_neg (by omega)]
  · show Bool.rec (motive := fun _ => Option α) (TF.get hi m) (TF.get (TF.set lo n v) m) (Nat.blt m 256) = _
    rw [h2]
    have := hb n h1; have := hb' m h2
    rw [if_neg (by omega)]
  · show Bool.rec (motive := fun _ => Option α) (TF.get hi m) (TF.get (TF.set lo n v) m) (Nat.blt m 256) = _
    rw [h2]
    show TF.get (TF.set lo n v) m = if n = m then some v else TF.get lo m
    rw [TF.get_set]
    have := hb n h1; have := hb m h2
    by_cases he : n = m
    · rw [if_pos he, if_pos (by rw [he])]
    · rw [if_neg he, if_neg (by omega)]

/- four digits: a memory -/
abbrev TM (α : Type) := N16 (N16 (TF α))

def TM.lf {α : Type} (v : Option α) : TM α := N16.all (N16.all (TF.lf v))
noncomputable def TM.get {α : Type} (t : TM α) (n : Nat) : Option α := TF.get (N16.get (N16.get t (toSel (Nat.div n 256))) (toSel (Nat.div n 4096))) n
noncomputable def TM.set {α : Type} (t : TM α) (n : Nat) (v : α) : TM α :=
  N16.set t (toSel (Nat.div n 256)) (N16.set (N16.get t (toSel (Nat.div n 256))) (toSel (Nat.div n 4096)) (TF.set (N16.get (N16.get t (toSel (Nat.div n 256))) (toSel (Nat.div n 4096))) n v))

theorem TM.get_lf {α : Type} (v : Option α) (n : Nat) : TM.get (TM.lf v) n = v := by
  unfold TM.get TM.lf; rw [N16.get_all, N16.get_all, TF.get_lf]

theorem TM.get_set {α : Type} (t : TM α) (n m : Nat) (v : α) : TM.get (TM.set t n v) m = if n % 65536 = m % 65536 then some v else TM.get t m := by
  unfold TM.get TM.set
  rw [N16.get_set]
  by_cases h0 : toSel (Nat.div n 256) = toSel (Nat.div m 256)
  · rw [if_pos h0, N16.get_set, h0]
    have h0' : n / 256 % 16 = m / 256 % 16 := (toSel_inj _ _).1 h0
    by_cases h1 : toSel (Nat.div n 4096) = toSel (Nat.div m 4096)
    · have h1' : n / 4096 % 16 = m / 4096 % 16 := (toSel_inj _ _).1 h1
      rw [if_pos h1, TF.get_set, h1]
      by_cases h2 : n % 256 = m % 256
      · rw [if_pos h2, if_pos (by omega)]
      · rw [if_neg h2, if_neg (by omega)]
    · have h1' : ¬ n / 4096 % 16 = m / 4096 % 16 := fun h => h1 ((toSel_inj _ _).2 h)
      rw [if_neg h1, if_neg (by omega)]
  · have h0' : ¬ n / 256 % 16 = m / 256 % 16 := fun h => h0 ((toSel_inj _ _).2 h)
    rw [if_neg h0, if_neg (by omega)]
end Go.Eng
/- The logical memory of the engine: tries, logical blocks, the relation of logical values and blocks to the model's. -/
namespace Go.Eng

def pureSem {α : Type} : Sem α → Option α
  | .pure v => some v
  | _ => none

/-- what may be asked of values that are not known -/
inductive SOp where
  | bin (op : BinOp)
  | beq (neg : Bool)
  | eqi
  | eqs
  | conv (k : IntKind)
  | un (op : UnOp)
  | truth
  | bytes
  | len (str : Bool)
  | mm (isMax : Bool)
  | iad (sz : Nat)
  | fad (off : Nat)
  | sidx
  | ssub (lo hi : Bool)
  | nn
  | ad (carry : Bool)
  | sb (borrow : Bool)

/-- what is known of values that are not known: the logical value '.complex _ n _' stands for the value n of a valuation -/
structure SRule where
  key : Nat
  q : SOp
  xs : List Value
  r : Value

def isSym : Value → Bool
  | .complex _ _ _ => true
  | _ => false

/-- numbers, strings, truth values, symbols -/
def isScP : Value → Bool
  | .complex _ _ _ => true
  | .int _ _ => true
  | .bool _ => true
  | .string _ => true
  | _ => false

/-- what a logical scalar stands for -/
def den (val : Nat → Value) : Value → Value
  | .complex _ n _ => val n
  | v => v

def sstr (op : BinOp) (x y : ByteArray) : Option Value :=
  let a := x.data.toList
  let b := y.data.toList
  match op with
  | .add => bif Nat.ble (a.length + b.length) 1152921504606846976 then some (.string ⟨⟨a ++ b⟩⟩) else none
  | .eql => some (.bool (a == b))
  | .neq => some (.bool !(a == b))
  | .lss => some (.bool (Op.bytesLess a b))
  | _ => none

def sbin (op : BinOp) (x y : Value) : Option Value :=
  match x, y with
  | .int k a, .int k' b => pureSem (binOp op 0 (.int k a) (.int k' b))
  | .string a, .string b => sstr op a b
  | _, _ => none

/-- the bytes that cells hold -/
def lbytes : List Value → Option (List UInt8)
  | [] => some []
  | .int .u8 n :: r => (lbytes r).map (UInt8.ofNat n.toNat :: ·)
  | _ :: _ => none

def ssubV (s : ByteArray) (lo hi : Int) : Option Value :=
  bif decide (0 ≤ lo) && decide (lo ≤ hi) && decide (hi ≤ s.data.toList.length) then some (.string ⟨⟨(s.data.toList.drop lo.toNat).take (hi.toNat - lo.toNat)⟩⟩) else none

/-- Add64, Sub64: the number, the carry -/
def adN (k : Bool) (x y c : Nat) : Nat := match k with
  | true => (x + y + c) / 18446744073709551616
  | false => (x + y + c) % 18446744073709551616
def sbN (k : Bool) (x y c : Nat) : Nat := match k with
  | true => if x < y + c then 1 else 0
  | false => (x + 18446744073709551616 - y - c) % 18446744073709551616

/-- the answers -/
def sev (q : SOp) (xs : List Value) : Option Value :=
  match q with
  | .bin op => match xs with
    | [x, y] => sbin op x y
    | _ => none
  | .beq neg => match xs with
    | [.bool a, .bool b] => some (.bool ((a == b) != neg))
    | _ => none
  | .eqi => match xs with
    | [.int k a, .int k' b] => bif decide (k = k') then some (.bool (a == b)) else none
    | _ => none
  | .eqs => match xs with
    | [.string a, .string b] => some (.bool (a.data.toList == b.data.toList))
    | _ => none
  | .conv k => match xs with
    | [.int _ i] => some (.int k (k.wrap i))
    | _ => none
  | .un op => match xs with
    | [.int k i] => pureSem (Op.unary op (.int k i))
    | [.bool b] => pureSem (Op.unary op (.bool b))
    | _ => none
  | .truth => match xs with
    | [.bool b] => some (.bool b)
    | _ => none
  | .bytes => (lbytes xs).map fun bs => .string ⟨⟨bs⟩⟩
  | .len str => match xs with
    | [.slice _ n _] => bif str then none else some (goInt n)
    | [.string b] => bif str then some (goInt b.data.toList.length) else none
    | _ => none
  | .mm isMax => match xs with
    | [.int k a, .int k' b] => bif decide (k = k') then some (.int k (bif isMax then (if b > a then b else a) else (if b < a then b else a))) else none
    | _ => none
  | .iad sz => match xs with
    | [.slice (some a) n _, .int _ j] => bif decide (0 ≤ j) && decide (j < n) then some (.pointer (some (a.add (j.toNat * sz)))) else none
    | _ => none
  | .fad off => match xs with
    | [.pointer (some a)] => some (.pointer (some (a.add off)))
    | _ => none
  | .sidx => match xs with
    | [.string s, .int _ n] => bif decide (0 ≤ n) then (match s.data.toList[n.toNat]? with | some b => some (.int .u8 b.toNat) | none => none) else none
    | _ => none
  | .nn => match xs with
    | [.pointer (some a)] => some (.pointer (some a))
    | _ => none
  | .ssub lo hi => match xs with
    | [.string s, .int _ l, .int _ h] => ssubV s (bif lo then l else 0) (bif hi then h else s.data.toList.length)
    | _ => none
  | .ad k => match xs with
    | [.int _ x, .int _ y, .int _ c] => bif Nat.ble c.toNat 1 then some (.int .u64 (Int.ofNat (adN k x.toNat y.toNat c.toNat))) else none
    | _ => none
  | .sb k => match xs with
    | [.int _ x, .int _ y, .int _ c] => bif Nat.ble c.toNat 1 then some (.int .u64 (Int.ofNat (sbN k x.toNat y.toNat c.toNat))) else none
    | _ => none

def SRule.good (val : Nat → Value) (r : SRule) : Prop := isScP r.r = true ∧ sev r.q (r.xs.map (den val)) = some (den val r.r)

/-- a truth value, a number, a string, nothing -/
def isOneV : Value → Bool
  | .int _ _ => true
  | .bool _ => true
  | .string _ => true
  | .slice none _ _ => true
  | .slice (some _) n c => Nat.ble n c
  | .pointer _ => true
  | _ => false

/-- what may be asked of lists that are not known -/
inductive LOp where
  | len
  | nil
  | iad (k : Nat)
  | fad (o : Nat)
  | sub (k : Nat) (lo hi : Bool)
  | app (k : Nat)
  | cat (k : Nat)
  | set (k o : Nat)
  | rep
  | ofs
  | tos
  | lit (k : Nat)
  | mhas
  | mrow (k : Nat)
  | mset (k : Nat)
  | mdel
  | mkeys

/-- what is known of lists that are not known: '.float _ n' stands for the list, or the place in a row, n of a valuation -/
structure LRule where
  key : Nat
  q : LOp
  xs : List Value
  r : Value

/-- a list, told by its rows -/
def lv (rs : List (List Value)) : Value := .tuple ⟨rs.map fun r => .agg ⟨r⟩⟩

def aggs : List Value → Option (List (List Value))
  | [] => some []
  | .agg r :: t => (aggs t).map (r.toList :: ·)
  | _ :: _ => none

theorem aggs_map : ∀ rs : List (List Value), aggs (rs.map fun r => .agg ⟨r⟩) = some rs
  | [] => rfl
  | r :: t => by simp [aggs, aggs_map t]

/-- the rows of a list; nil has none -/
def lrows : Value → Option (List (List Value))
  | .slice none 0 0 => some []
  | .tuple rs => aggs rs.toList
  | _ => none

theorem lrows_lv (rs : List (List Value)) : lrows (lv rs) = some rs := aggs_map rs

def chunk (k : Nat) : Nat → List Value → List (List Value)
  | 0, _ => []
  | n + 1, vs => match vs with
    | [] => []
    | _ => vs.take k :: chunk k n (vs.drop k)

def int1 : Value → Option Nat
  | .int _ i => bif decide (0 ≤ i) then some i.toNat else none
  | _ => none

def isNilL : Value → Bool
  | .slice none 0 0 => true
  | _ => false

def b1 : List Value → Option (List UInt8)
  | [] => some []
  | .agg r :: t => match r.toList with
    | [.int .u8 n] => (b1 t).map (UInt8.ofNat n.toNat :: ·)
    | _ => none
  | _ :: _ => none

def setRow (rs : List (List Value)) (i o : Nat) (vs : List Value) : List (List Value) :=
  match rs[i]? with
  | some r => rs.set i (r.take o ++ (vs ++ r.drop (o + vs.length)))
  | none => rs

/-- keys of maps: numbers within their kinds -/
def okKey : Value → Bool
  | .int k n => decide (k.min ≤ n) && decide (n ≤ k.max)
  | _ => false
def keyEq : Value → Value → Option Bool
  | .int k a, .int k' b => if k = k' then some (a == b) else none
  | _, _ => none
/-- where a key stands in a map's rows -/
def mfind (key : Value) : List (List Value) → Nat → Option (Option Nat)
  | [], _ => some none
  | r :: t, i => match r with
    | [] => none
    | k :: _ => match keyEq key k with
      | some true => some (some i)
      | some false => mfind key t (i + 1)
      | none => none
def intsOf : List (List Value) → Option (List Int)
  | [] => some []
  | (.int .i64 n :: _) :: t => (intsOf t).map (n :: ·)
  | _ :: _ => none
def ins1 (x : Int) : List Int → List Int
  | [] => [x]
  | y :: r => bif decide (x ≤ y) then x :: y :: r else y :: ins1 x r
def isort : List Int → List Int
  | [] => []
  | x :: r => ins1 x (isort r)

/-- the answers -/
def lsev (q : LOp) (xs : List Value) : Option Value :=
  match q with
  | .len => match xs with
    | [x] => (lrows x).map fun rs => goInt rs.length
    | _ => none
  | .nil => match xs with
    | [x] => (lrows x).map fun _ => .bool (isNilL x)
    | _ => none
  | .iad k => match xs with
    | [x, i] => match lrows x, int1 i with
      | some rs, some i => match rs[i]? with
        | some r => bif Nat.beq r.length k && Nat.ble 1 k then some (.iface 0 (.agg ⟨r⟩)) else none
        | none => none
      | _, _ => none
    | _ => none
  | .fad o => match xs with
    | [.iface p r] => some (.iface (p + o) r)
    | _ => none
  | .sub k lo hi => match xs with
    | [x, l, h] => match lrows x, int1 (bif lo then l else goInt 0), (bif hi then int1 h else (lrows x).map List.length) with
      | some rs, some l, some h => bif Nat.ble l h && Nat.ble h rs.length && !isNilL x && rs.all (fun r => Nat.beq r.length k) then some (lv ((rs.drop l).take (h - l))) else none
      | _, _, _ => none
    | _ => none
  | .app k => match xs with
    | x :: vs => match lrows x with
      | some rs => bif Nat.ble 1 k && Nat.ble 1 vs.length && Nat.beq (vs.length % k) 0 && Nat.ble (rs.length + vs.length) 1048576 then some (lv (rs ++ chunk k vs.length vs)) else none
      | none => none
    | _ => none
  | .cat k => match xs with
    | [x, y] => match lrows x, lrows y with
      | some rs, some ts => match ts with
        | [] => some x
        | _ :: _ => bif Nat.ble (rs.length + ts.length) 1048576 && ts.all (fun r => Nat.beq r.length k) then some (lv (rs ++ ts)) else none
      | _, _ => none
    | _ => none
  | .set k o => match xs with
    | x :: i :: vs => match lrows x, int1 i with
      | some rs, some i => match rs[i]? with
        | some r => bif Nat.beq r.length k && Nat.ble (o + vs.length) k && !isNilL x then some (lv (setRow rs i o vs)) else none
        | none => none
      | _, _ => none
    | _ => none
  | .rep => match xs with
    | n :: vs => (int1 n).map fun n => lv (List.replicate n vs)
    | _ => none
  | .ofs => match xs with
    | [.string s] => some (lv (s.data.toList.map fun b => [.int .u8 b.toNat]))
    | _ => none
  | .tos => match xs with
    | [.slice none 0 0] => some (.string ⟨⟨[]⟩⟩)
    | [.tuple rs] => (b1 rs.toList).map fun bs => .string ⟨⟨bs⟩⟩
    | _ => none
  | .lit k => bif Nat.ble 1 k && Nat.beq (xs.length % k) 0 then some (lv (chunk k xs.length xs)) else none
  | .mhas => match xs with
    | [x, key] => match lrows x with
      | some rs => (mfind key rs 0).map fun i => .bool i.isSome
      | none => none
    | _ => none
  | .mrow k => match xs with
    | [x, key] => match lrows x with
      | some rs => match mfind key rs 0 with
        | some (some i) => match rs[i]? with
          | some r => bif Nat.beq r.length (k + 1) && Nat.ble 1 k then some (.iface 1 (.agg ⟨r⟩)) else none
          | none => none
        | _ => none
      | none => none
    | _ => none
  | .mset k => match xs with
    | x :: key :: cs => match lrows x with
      | some rs => bif okKey key && Nat.beq cs.length k && cs.all isOneV then (match mfind key rs 0 with
        | some (some i) => some (lv (rs.set i (key :: cs)))
        | some none => bif Nat.ble (rs.length + 1) 1048576 then some (lv (rs ++ [key :: cs])) else none
        | none => none) else none
      | none => none
    | _ => none
  | .mdel => match xs with
    | [x, key] => match lrows x with
      | some rs => match mfind key rs 0 with
        | some (some i) => some (lv (rs.eraseIdx i))
        | some none => some x
        | none => none
      | none => none
    | _ => none
  | .mkeys => match xs with
    | [x] => match lrows x with
      | some [] => some (.slice none 0 0)
      | some rs => (intsOf rs).map fun ns => lv ((isort ns).map fun n => [.int .i64 n])
      | none => none
    | _ => none

/-- data of a run: rules on symbols, what lies behind places that are symbols -/
class SymD where
  tab : List SRule
  ltab : List LRule
  ptr : Nat → Option (List Value)

/-- symbols of scalars, of lists; scalars; nil -/
def isLxP : Value → Bool
  | .complex _ _ _ => true
  | .float _ _ => true
  | .int _ _ => true
  | .bool _ => true
  | .string _ => true
  | .slice none 0 0 => true
  | _ => false

def denX (val lst : Nat → Value) : Value → Value
  | .complex _ n _ => val n
  | .float _ n => lst n
  | v => v

def LRule.good (val lst : Nat → Value) (r : LRule) : Prop := isLxP r.r = true ∧ lsev r.q (r.xs.map (denX val lst)) = some (denX val lst r.r)

class SymV extends SymD where
  val : Nat → Value
  one : ∀ n, isOneV (val n) = true
  /-- lists, and places in rows -/
  lst : Nat → Value
  ok : ∀ r ∈ tab, r.good val
  lok : ∀ r ∈ ltab, r.good val lst
  ptrOK : ∀ n cs, ptr n = some cs → ∃ (o : Nat) (ds : List Value), lst n = .iface o (.agg ⟨ds⟩) ∧ cs.all isLxP = true ∧ o + cs.length ≤ ds.length ∧ ∀ (i : Nat) (v : Value), cs[i]? = some v → ds[o + i]? = some (denX val lst v)

/-- no lists -/
@[reducible] def SymV.plain (tab : List SRule) (val : Nat → Value) (one : ∀ n, isOneV (val n) = true) (ok : ∀ r ∈ tab, r.good val) : SymV :=
  { tab := tab, ltab := [], ptr := fun _ => none, val := val, one := one, lst := fun _ => .slice none 0 0, ok := ok, lok := (fun _ h => by cases h), ptrOK := (fun _ _ h => by cases h) }

theorem oneV_int {v : Value} (h : ∃ k i, v = .int k i) : isOneV v = true := by obtain ⟨k, i, rfl⟩ := h; rfl


/-- the same value, told: numbers, strings, truth values, symbols -/
def peq (x y : Value) : Bool :=
  match x with
  | .complex _ n _ => match y with
    | .complex _ m _ => Nat.beq n m
    | _ => false
  | .int j a => match y with
    | .int k b => decide (j = k) && decide (a = b)
    | _ => false
  | .bool a => match y with
    | .bool b => a == b
    | _ => false
  | .string a => match y with
    | .string b => a.data.toList == b.data.toList
    | _ => false
  | _ => false

theorem peq_den {val : Nat → Value} {x y : Value} (h : peq x y = true) : den val x = den val y ∧ isScP x = true := by
  unfold peq at h
  split at h
  · split at h
    · rw [show den val (.complex _ _ _) = val _ from rfl, Nat.eq_of_beq_eq_true h]; exact ⟨rfl, rfl⟩
    · cases h
  · split at h
    · simp only [Bool.and_eq_true, decide_eq_true_eq] at h
      rw [h.1, h.2]; exact ⟨rfl, rfl⟩
    · cases h
  · split at h
    · have := beq_iff_eq.1 h
      subst this
      exact ⟨rfl, rfl⟩
    · cases h
  · split at h
    · rename_i a _ b
      have : a = b := by
        apply ByteArray.ext
        exact Array.ext' (by simpa using h)
      subst this
      exact ⟨rfl, rfl⟩
    · cases h
  · cases h

def peqL : List Value → List Value → Bool
  | [], [] => true
  | x :: xs, y :: ys => peq x y && peqL xs ys
  | _, _ => false

theorem peqL_den {val : Nat → Value} : ∀ {xs ys : List Value}, peqL xs ys = true → xs.map (den val) = ys.map (den val) ∧ xs.all isScP = true
  | [], [], _ => ⟨rfl, rfl⟩
  | [], _ :: _, h => by cases h
  | _ :: _, [], h => by cases h
  | x :: xs, y :: ys, h => by
    simp only [peqL, Bool.and_eq_true] at h
    have h1 := peq_den (val := val) h.1
    have h2 := peqL_den (val := val) h.2
    refine ⟨by rw [List.map_cons, List.map_cons, h1.1, h2.1], ?_⟩
    simp only [List.all_cons, Bool.and_eq_true]
    exact ⟨h1.2, h2.2⟩

def qeq (p q : SOp) : Bool :=
  match p with
  | .bin a => match q with
    | .bin b => decide (a = b)
    | _ => false
  | .beq a => match q with
    | .beq b => a == b
    | _ => false
  | .eqi => match q with
    | .eqi => true
    | _ => false
  | .eqs => match q with
    | .eqs => true
    | _ => false
  | .conv a => match q with
    | .conv b => decide (a = b)
    | _ => false
  | .un a => match q with
    | .un b => decide (a = b)
    | _ => false
  | .truth => match q with
    | .truth => true
    | _ => false
  | .bytes => match q with
    | .bytes => true
    | _ => false
  | .len a => match q with
    | .len b => a == b
    | _ => false
  | .mm a => match q with
    | .mm b => a == b
    | _ => false
  | .iad a => match q with
    | .iad b => Nat.beq a b
    | _ => false
  | .fad a => match q with
    | .fad b => Nat.beq a b
    | _ => false
  | .sidx => match q with
    | .sidx => true
    | _ => false
  | .ssub a c => match q with
    | .ssub b d => a == b && c == d
    | _ => false
  | .nn => match q with
    | .nn => true
    | _ => false
  | .ad a => match q with
    | .ad b => a == b
    | _ => false
  | .sb a => match q with
    | .sb b => a == b
    | _ => false

theorem qeq_eq {p q : SOp} (h : qeq p q = true) : p = q := by
  cases p <;> cases q <;> simp [qeq] at h <;> first
    | rfl
    | (subst h; rfl)
    | (obtain ⟨rfl, rfl⟩ := h; rfl)

def bopN : BinOp → Nat
  | .add => 1
  | .sub => 2
  | .mul => 3
  | .quo => 4
  | .rem => 5
  | .and => 6
  | .or => 7
  | .xor => 8
  | .shl => 9
  | .shr => 10
  | .andNot => 11
  | .eql => 12
  | .neq => 13
  | .lss => 14
  | .leq => 15
  | .gtr => 16
  | .geq => 17

def qN : SOp → Nat
  | .bin op => bopN op
  | .beq _ => 20
  | .conv _ => 21
  | .un _ => 22
  | .truth => 23
  | .bytes => 24
  | .len _ => 25
  | .mm _ => 26
  | .iad _ => 27
  | .fad _ => 28
  | .sidx => 29
  | .ssub _ _ => 30
  | .eqi => 31
  | .nn => 33
  | .eqs => 32
  | .ad _ => 34
  | .sb _ => 35

def vN : Value → Nat
  | .complex _ n _ => Nat.succ (Nat.mul 4 n)
  | .float _ n => Nat.succ (Nat.succ (Nat.succ (Nat.mul 4 n)))
  | .int _ (.ofNat n) => Nat.mul 4 n
  | .int _ (.negSucc n) => Nat.succ (Nat.succ (Nat.mul 4 n))
  | .bool b => bif b then 7 else 3
  | _ => 11

/-- a rule's key: what is looked for first -/
def skey (q : SOp) (xs : List Value) : Nat := xs.foldl (fun acc x => Nat.add (Nat.mul acc 1099511627776) (vN x)) (qN q)

/-- a rule -/
def mkR (q : SOp) (xs : List Value) (r : Value) : SRule := ⟨skey q xs, q, xs, r⟩

def slkK (k : Nat) (q : SOp) (xs : List Value) : List SRule → Option Value
  | [] => none
  | r :: t => bif Nat.beq k r.key then (bif qeq q r.q && peqL xs r.xs then some r.r else slkK k q xs t) else slkK k q xs t

/-- what is known of a question -/
def slk (q : SOp) (xs : List Value) (tab : List SRule) : Option Value := slkK (skey q xs) q xs tab

theorem slkK_spec {val : Nat → Value} {k : Nat} {q : SOp} {xs : List Value} {r : Value} : ∀ {tab : List SRule}, (∀ r ∈ tab, r.good val) → slkK k q xs tab = some r →
    xs.all isScP = true ∧ isScP r = true ∧ sev q (xs.map (den val)) = some (den val r)
  | [], _, h => by cases h
  | r' :: t, hg, h => by
    have ih := slkK_spec (tab := t) (k := k) (q := q) (xs := xs) (r := r) (fun r hr => hg r (List.mem_cons_of_mem _ hr))
    unfold slkK at h
    cases hk : Nat.beq k r'.key with
    | false => rw [hk] at h; exact ih h
    | true =>
      rw [hk] at h
      cases hc : (qeq q r'.q && peqL xs r'.xs) with
      | false => rw [hc] at h; exact ih h
      | true =>
        rw [hc] at h
        simp only [cond_true, Option.some.injEq] at h
        subst h
        rw [Bool.and_eq_true] at hc
        have hq := qeq_eq hc.1
        have hx := peqL_den (val := val) hc.2
        obtain ⟨g1, g2⟩ := hg _ (List.mem_cons_self ..)
        exact ⟨hx.2, g1, by rw [hq, hx.1]; exact g2⟩

theorem slk_spec {val : Nat → Value} {q : SOp} {xs : List Value} {r : Value} {tab : List SRule} (hg : ∀ r ∈ tab, r.good val) (h : slk q xs tab = some r) :
    xs.all isScP = true ∧ isScP r = true ∧ sev q (xs.map (den val)) = some (den val r) := slkK_spec hg h

/-- the same value, told: scalars, lists by their numbers, nil -/
def leqx (x y : Value) : Bool :=
  match x with
  | .float _ n => match y with
    | .float _ m => Nat.beq n m
    | _ => false
  | .slice none 0 0 => match y with
    | .slice none 0 0 => true
    | _ => false
  | x => peq x y

theorem denX_sc {val lst : Nat → Value} {x : Value} (h : isScP x = true) : denX val lst x = den val x := by
  cases x <;> first | rfl | cases h

theorem leqx_den {val lst : Nat → Value} {x y : Value} (h : leqx x y = true) : denX val lst x = denX val lst y ∧ isLxP x = true := by
  unfold leqx at h
  split at h
  · split at h
    · rw [show denX val lst (.float _ _) = lst _ from rfl, Nat.eq_of_beq_eq_true h]; exact ⟨rfl, rfl⟩
    · cases h
  · split at h
    · exact ⟨rfl, rfl⟩
    · cases h
  · obtain ⟨h1, h2⟩ := peq_den (val := val) h
    have h3 : isScP y = true := by
      unfold peq at h
      split at h
      all_goals first
        | (split at h <;> first | rfl | cases h)
        | cases h
    refine ⟨(denX_sc h2).trans (h1.trans (denX_sc h3).symm), ?_⟩
    revert h2
    cases x <;> intro h2 <;> first | rfl | cases h2

def leqxL : List Value → List Value → Bool
  | [], [] => true
  | x :: xs, y :: ys => leqx x y && leqxL xs ys
  | _, _ => false

theorem leqxL_den {val lst : Nat → Value} : ∀ {xs ys : List Value}, leqxL xs ys = true → xs.map (denX val lst) = ys.map (denX val lst) ∧ xs.all isLxP = true
  | [], [], _ => ⟨rfl, rfl⟩
  | [], _ :: _, h => by cases h
  | _ :: _, [], h => by cases h
  | x :: xs, y :: ys, h => by
    simp only [leqxL, Bool.and_eq_true] at h
    have h1 := leqx_den (val := val) (lst := lst) h.1
    have h2 := leqxL_den (val := val) (lst := lst) h.2
    refine ⟨by rw [List.map_cons, List.map_cons, h1.1, h2.1], ?_⟩
    simp only [List.all_cons, Bool.and_eq_true]
    exact ⟨h1.2, h2.2⟩

def lqeq (p q : LOp) : Bool :=
  match p with
  | .len => match q with
    | .len => true
    | _ => false
  | .nil => match q with
    | .nil => true
    | _ => false
  | .iad a => match q with
    | .iad b => Nat.beq a b
    | _ => false
  | .fad a => match q with
    | .fad b => Nat.beq a b
    | _ => false
  | .sub n a c => match q with
    | .sub m b d => Nat.beq n m && (a == b && c == d)
    | _ => false
  | .app a => match q with
    | .app b => Nat.beq a b
    | _ => false
  | .cat a => match q with
    | .cat b => Nat.beq a b
    | _ => false
  | .set a c => match q with
    | .set b d => Nat.beq a b && Nat.beq c d
    | _ => false
  | .rep => match q with
    | .rep => true
    | _ => false
  | .ofs => match q with
    | .ofs => true
    | _ => false
  | .tos => match q with
    | .tos => true
    | _ => false
  | .lit a => match q with
    | .lit b => Nat.beq a b
    | _ => false
  | .mhas => match q with
    | .mhas => true
    | _ => false
  | .mrow a => match q with
    | .mrow b => Nat.beq a b
    | _ => false
  | .mset a => match q with
    | .mset b => Nat.beq a b
    | _ => false
  | .mdel => match q with
    | .mdel => true
    | _ => false
  | .mkeys => match q with
    | .mkeys => true
    | _ => false

theorem lqeq_eq {p q : LOp} (h : lqeq p q = true) : p = q := by
  cases p <;> cases q <;> simp [lqeq] at h <;> first
    | rfl
    | (subst h; rfl)
    | (obtain ⟨rfl, rfl⟩ := h; rfl)
    | (obtain ⟨rfl, rfl, rfl⟩ := h; rfl)

def lqN : LOp → Nat
  | .len => 41
  | .nil => 42
  | .iad _ => 43
  | .fad _ => 44
  | .sub _ _ _ => 45
  | .app _ => 46
  | .cat _ => 47
  | .set _ _ => 48
  | .rep => 49
  | .ofs => 50
  | .tos => 51
  | .lit _ => 52
  | .mhas => 53
  | .mrow _ => 54
  | .mset _ => 55
  | .mdel => 56
  | .mkeys => 57

def lrkey (q : LOp) (xs : List Value) : Nat := xs.foldl (fun acc x => Nat.add (Nat.mul acc 1099511627776) (vN x)) (lqN q)

/-- a rule -/
def mkL (q : LOp) (xs : List Value) (r : Value) : LRule := ⟨lrkey q xs, q, xs, r⟩

def llkK (k : Nat) (q : LOp) (xs : List Value) : List LRule → Option Value
  | [] => none
  | r :: t => bif Nat.beq k r.key then (bif lqeq q r.q && leqxL xs r.xs then some r.r else llkK k q xs t) else llkK k q xs t

/-- what is known of a question -/
def llk (q : LOp) (xs : List Value) (tab : List LRule) : Option Value := llkK (lrkey q xs) q xs tab

theorem llkK_spec {val lst : Nat → Value} {k : Nat} {q : LOp} {xs : List Value} {r : Value} : ∀ {tab : List LRule}, (∀ r ∈ tab, r.good val lst) → llkK k q xs tab = some r →
    xs.all isLxP = true ∧ isLxP r = true ∧ lsev q (xs.map (denX val lst)) = some (denX val lst r)
  | [], _, h => by cases h
  | r' :: t, hg, h => by
    have ih := llkK_spec (tab := t) (k := k) (q := q) (xs := xs) (r := r) (fun r hr => hg r (List.mem_cons_of_mem _ hr))
    unfold llkK at h
    cases hk : Nat.beq k r'.key with
    | false => rw [hk] at h; exact ih h
    | true =>
      rw [hk] at h
      cases hc : (lqeq q r'.q && leqxL xs r'.xs) with
      | false => rw [hc] at h; exact ih h
      | true =>
        rw [hc] at h
        simp only [cond_true, Option.some.injEq] at h
        subst h
        rw [Bool.and_eq_true] at hc
        have hq := lqeq_eq hc.1
        have hx := leqxL_den (val := val) (lst := lst) hc.2
        obtain ⟨g1, g2⟩ := hg _ (List.mem_cons_self ..)
        exact ⟨hx.2, g1, by rw [hq, hx.1]; exact g2⟩

theorem llk_spec {val lst : Nat → Value} {q : LOp} {xs : List Value} {r : Value} {tab : List LRule} (hg : ∀ r ∈ tab, r.good val lst) (h : llk q xs tab = some r) :
    xs.all isLxP = true ∧ isLxP r = true ∧ lsev q (xs.map (denX val lst)) = some (denX val lst r) := llkK_spec hg h

/-- which truth value a symbol stands for -/
def tlk (x : Value) (tab : List SRule) : Option Bool :=
  match slk .truth [x] tab with
  | some (.bool b) => some b
  | _ => none

theorem tlk_spec {val : Nat → Value} {x : Value} {b : Bool} {tab : List SRule} (hg : ∀ r ∈ tab, r.good val) (h : tlk x tab = some b) : isScP x = true ∧ den val x = .bool b := by
  unfold tlk at h
  split at h
  · rename_i b' hl
    cases h
    obtain ⟨h1, _, h3⟩ := slk_spec hg hl
    refine ⟨by simpa using h1, ?_⟩
    simp only [List.map_cons, List.map_nil, sev] at h3
    split at h3
    · rename_i b2 hb
      simp only [List.cons.injEq, and_true] at hb
      rw [hb]
      exact Option.some.inj h3
    · cases h3
  · cases h

theorem binOp_t (op : BinOp) (t t' : TypeId) (k k' : IntKind) (a b : Int) : binOp op t (.int k a) (.int k' b) = binOp op t' (.int k a) (.int k' b) := by cases op <;> rfl

/-- what a comparison, or a calculation, of two scalars said -/
theorem sbin_cases {op : BinOp} {x y v : Value} (h : sbin op x y = some v) : (∃ k a k' b, x = .int k a ∧ y = .int k' b ∧ ∀ t, pureSem (binOp op t (.int k a) (.int k' b)) = some v) ∨ (∃ a b, x = .string a ∧ y = .string b ∧ sstr op a b = some v) := by
  unfold sbin at h
  split at h
  · exact .inl ⟨_, _, _, _, rfl, rfl, fun t => by rw [binOp_t op t 0]; exact h⟩
  · exact .inr ⟨_, _, rfl, rfl, h⟩
  · cases h

/-- a block of the logical memory -/
inductive LB where
  | cells (c : List Value)
  | ro (c : List Value)
  | map (es : List MapEntry) (clock : Nat)
  | lst (ro : Bool) (k s : Nat)
  | mp (k s : Nat)
  | dead

structure LMem where
  tr : TM LB
  next : Nat

noncomputable def LMem.get (m : LMem) (id : Nat) : Option LB := LMem.rec (motive := fun _ => Option LB) (fun tr next => Bool.rec none (TM.get tr id) (Nat.blt id next)) m

def lmax (a b : Nat) : Nat := bif Nat.ble a b then b else a

theorem le_lmax_left (a b : Nat) : a ≤ lmax a b := by
  unfold lmax; cases h : Nat.ble a b <;> simp
  exact Nat.le_of_ble_eq_true h
theorem le_lmax_right (a b : Nat) : b ≤ lmax a b := by
  unfold lmax; cases h : Nat.ble a b <;> simp
  have : ¬ a ≤ b := fun h' => by rw [Nat.ble_eq_true_of_le h'] at h; cases h
  omega

def ubL (f : Value → Nat) : List Value → Nat
  | [] => 0
  | v :: r => lmax (f v) (ubL f r)

/-- above every block's number in a value (as far as its fuel goes) -/
def ubF : Nat → Value → Nat
  | 0, _ => 1152921504606846976
  | n + 1, v => match v with
    | .pointer (some a) => a.block + 1
    | .slice (some a) _ _ => a.block + 1
    | .map (some r) => r + 1
    | .chan (some r) => r + 1
    | .func _ xs ys => lmax (ubL (ubF n) xs.toList) (ubL (ubF n) ys.toList)
    | .iface _ x => ubF n x
    | .agg xs => ubL (ubF n) xs.toList
    | .tuple xs => ubL (ubF n) xs.toList
    | .complex _ _ _ => 1
    | .float _ _ => 1
    | _ => 0

def ub (v : Value) : Nat := ubF 7 v
def ubs (vs : List Value) : Nat := ubL (ubF 7) vs
def ubE : List MapEntry → Nat
  | [] => 0
  | e :: r => lmax (lmax (ub e.key) (ub e.val)) (ubE r)
def ubB : LB → Nat
  | .cells c => ubs c
  | .ro c => ubs c
  | .map es _ => ubE es
  | .lst _ _ _ => 0
  | .mp _ _ => 0
  | .dead => 0

theorem ubL_le {f : Value → Nat} {vs : List Value} {n : Nat} (h : ubL f vs ≤ n) : ∀ v ∈ vs, f v ≤ n := by
  induction vs with
  | nil => simp
  | cons x r ih =>
    intro v hv
    simp only [ubL] at h
    have h1 := le_lmax_left (f x) (ubL f r)
    have h2 := le_lmax_right (f x) (ubL f r)
    rcases List.mem_cons.1 hv with rfl | hv
    · omega
    · exact ih (by omega) v hv

theorem ubL_of {f : Value → Nat} {vs : List Value} {n : Nat} (h : ∀ v ∈ vs, f v ≤ n) : ubL f vs ≤ n := by
  induction vs with
  | nil => simp [ubL]
  | cons x r ih =>
    have h1 := h x (by simp)
    have h2 := ih fun v hv => h v (by simp [hv])
    simp only [ubL, lmax]
    cases Nat.ble (f x) (ubL f r) <;> simpa

/-- a memory in which no block names a block that is not there -/
structure WF (m : LMem) : Prop where
  room : m.next ≤ 16384
  closed : ∀ id b, m.get id = some b → ubB b ≤ m.next

theorem blt_true {a b : Nat} (h : a < b) : Nat.blt a b = true := Nat.ble_eq_true_of_le h
theorem blt_lt {a b : Nat} (h : Nat.blt a b = true) : a < b := Nat.le_of_ble_eq_true h
theorem blt_false {a b : Nat} (h : b ≤ a) : Nat.blt a b = false := by
  cases hb : Nat.blt a b
  · rfl
  · have := blt_lt hb; omega

theorem LMem.get_none {m : LMem} {id : Nat} (h : m.next ≤ id) : m.get id = none := by
  obtain ⟨tr, next⟩ := m
  show Bool.rec (motive := fun _ => Option LB) none (TM.get tr id) (Nat.blt id next) = none
  rw [blt_false h]

theorem LMem.get_tr {m : LMem} {id : Nat} (h : id < m.next) : m.get id = TM.get m.tr id := by
  obtain ⟨tr, next⟩ := m
  show Bool.rec (motive := fun _ => Option LB) none (TM.get tr id) (Nat.blt id next) = TM.get tr id
  rw [blt_true h]

theorem LMem.get_lt {m : LMem} {id : Nat} {b : LB} (h : m.get id = some b) : id < m.next := by
  rcases Nat.lt_or_ge id m.next with h' | h'
  · exact h'
  · rw [LMem.get_none h'] at h; cases h

/-- a new block: its number is 'm.next' -/
noncomputable def LMem.alloc (m : LMem) (b : LB) : Option LMem :=
  match m with
  | ⟨tr, next⟩ => bif Nat.blt next 16384 && Nat.ble (ubB b) next then some ⟨TM.set tr next b, Nat.succ next⟩ else none

/-- a block replaced; 'u' is above the numbers in what is new in it -/
noncomputable def LMem.put (m : LMem) (id : Nat) (u : Nat) (b : LB) : Option LMem :=
  match m with
  | ⟨tr, next⟩ => bif Nat.blt id next && Nat.ble u next then some ⟨TM.set tr id b, next⟩ else none


theorem LMem.alloc_spec {m m' : LMem} {b : LB} (hw : WF m) (h : m.alloc b = some m') :
    m'.next = m.next + 1 ∧ m'.get m.next = some b ∧ (∀ id, id ≠ m.next → m'.get id = m.get id) ∧ WF m' := by
  have h : (bif Nat.blt m.next 16384 && Nat.ble (ubB b) m.next then some { tr := TM.set m.tr m.next b, next := m.next + 1 } else none) = some m' := by cases m; exact h
  cases hc : (Nat.blt m.next 16384 && Nat.ble (ubB b) m.next) with
  | false => rw [hc] at h; cases h
  | true =>
    rw [hc] at h
    simp only [cond_true, Option.some.injEq] at h
    rw [Bool.and_eq_true] at hc
    have h1 := blt_lt hc.1
    have h2 := Nat.le_of_ble_eq_true hc.2
    subst h
    have hg : ∀ id, LMem.get { tr := TM.set m.tr m.next b, next := m.next + 1 } id = if id = m.next then some b else m.get id := by
      intro id
      by_cases hid : id < m.next + 1
      · rw [LMem.get_tr (by exact hid), TM.get_set]
        by_cases he : id = m.next
        · subst he; simp
        · have hlt : id < m.next := by omega
          rw [if_neg he, if_neg (by omega), LMem.get_tr hlt]
      · rw [LMem.get_none (by show m.next + 1 ≤ id; omega), if_neg (by omega), LMem.get_none (by omega)]
    refine ⟨rfl, by rw [hg]; simp, fun id hid => by rw [hg, if_neg hid], ⟨by show m.next + 1 ≤ 16384; omega, fun id b' hb' => ?_⟩⟩
    rw [hg] at hb'
    by_cases he : id = m.next
    · rw [if_pos he] at hb'; cases hb'; show ubB b ≤ m.next + 1; omega
    · rw [if_neg he] at hb'; have := hw.closed id b' hb'; show ubB b' ≤ m.next + 1; omega

theorem LMem.put_spec {m m' : LMem} {id u : Nat} {b : LB} (hw : WF m) (hu : u ≤ m.next → ubB b ≤ m.next) (h : m.put id u b = some m') :
    m'.next = m.next ∧ id < m.next ∧ m'.get id = some b ∧ (∀ j, j ≠ id → m'.get j = m.get j) ∧ WF m' := by
  have h : (bif Nat.blt id m.next && Nat.ble u m.next then some { m with tr := TM.set m.tr id b } else none) = some m' := by cases m; exact h
  cases hc : (Nat.blt id m.next && Nat.ble u m.next) with
  | false => rw [hc] at h; cases h
  | true =>
    rw [hc] at h
    simp only [cond_true, Option.some.injEq] at h
    rw [Bool.and_eq_true] at hc
    have h1 := blt_lt hc.1
    have h2 := hu (Nat.le_of_ble_eq_true hc.2)
    have hr := hw.room
    subst h
    have hg : ∀ j, LMem.get { m with tr := TM.set m.tr id b } j = if j = id then some b else m.get j := by
      intro j
      by_cases hj : j < m.next
      · rw [LMem.get_tr (by exact hj), TM.get_set]
        by_cases he : j = id
        · subst he; simp
        · rw [if_neg he, if_neg (by omega), LMem.get_tr hj]
      · rw [LMem.get_none (by show m.next ≤ j; omega), if_neg (by omega), LMem.get_none (by omega)]
    refine ⟨rfl, h1, by rw [hg]; simp, fun j hj => by rw [hg, if_neg hj], ⟨hw.room, fun j b' hb' => ?_⟩⟩
    rw [hg] at hb'
    by_cases he : j = id
    · rw [if_pos he] at hb'; cases hb'; exact h2
    · rw [if_neg he] at hb'; exact hw.closed j b' hb'

/-- where a logical block lies: the model's block, how far in, and how many cells that block has; of a list: how many rows, of how many cells -/
structure Loc where
  b : Nat
  sh : Nat
  sz : Nat
  n : Nat
  k : Nat

/-- 'none': not there; 'some none': dead, or (nl) a list that is nil; fz: what stays as it is -/
structure Phi where
  ids : Nat → Option (Option Loc)
  fz : Nat → Option Obj
  nl : Nat → Bool
instance : CoeFun Phi (fun _ => Nat → Option (Option Loc)) := ⟨Phi.ids⟩

/-- a value in rows that stay as they are -/
inductive DenF (fz : Nat → Option Obj) : Value → Value → Prop where
  | sc (v : Value) : isOneV v = true → DenF fz v v
  | list (b o n k cap : Nat) (c : Array Value) (e : TypeId) (m : Nat × Nat) (rs : List (List Value)) (us : Nat → Nat → Value) : fz b = some (.cells c e m) → rs.length = n → n ≤ cap → 1 ≤ k → o + cap * k ≤ c.size →
      (∀ (i : Nat) (r : List Value), rs[i]? = some r → r.length = k) →
      (∀ (i : Nat) (r : List Value) (j : Nat) (d : Value), rs[i]? = some r → r[j]? = some d → c[o + i * k + j]? = some (us i j)) →
      (∀ (i : Nat) (r : List Value) (j : Nat) (d : Value), rs[i]? = some r → r[j]? = some d → DenF fz (us i j) d) → DenF fz (.slice (some ⟨b, o, none⟩) n cap) (lv rs)
  | place (b p o : Nat) (c : Array Value) (e : TypeId) (m : Nat × Nat) (r : List Value) (us : Nat → Value) : fz b = some (.cells c e m) → p + r.length ≤ c.size →
      (∀ (j : Nat) (d : Value), r[j]? = some d → c[p + j]? = some (us j)) → (∀ (j : Nat) (d : Value), r[j]? = some d → DenF fz (us j) d) → DenF fz (.pointer (some ⟨b, p + o, none⟩)) (.iface o (.agg ⟨r⟩))

theorem DenF.mono {fz fz' : Nat → Option Obj} (h : ∀ b o, fz b = some o → fz' b = some o) {v d : Value} (hd : DenF fz v d) : DenF fz' v d := by
  induction hd with
  | sc v h1 => exact .sc v h1
  | list b o n k cap c e m rs us h1 h2 h3 h4 h5 h6 h7 _ ih => exact .list b o n k cap c e m rs us (h _ _ h1) h2 h3 h4 h5 h6 h7 ih
  | place b p o c e m r us h1 h2 h3 _ ih => exact .place b p o c e m r us (h _ _ h1) h2 h3 ih

theorem DenF.oneCell {fz : Nat → Option Obj} {v d : Value} (h : DenF fz v d) : v.oneCell' = true := by
  cases h with
  | sc v h1 => cases v <;> first | rfl | cases h1
  | list => rfl
  | place => rfl

variable [SymV]

mutual
inductive VR (φ : Phi) : Value → Value → Prop where
  | bool (b : Bool) : VR φ (.bool b) (.bool b)
  | int (k : IntKind) (n : Int) : VR φ (.int k n) (.int k n)
  | string (s : ByteArray) : VR φ (.string s) (.string s)
  | lsym (k : FloatKind) (n : Nat) (v : Value) : DenF φ.fz v (SymV.lst n) → VR φ (.float k n) v
  | sym (k : FloatKind) (n m : Nat) (v : Value) : v = SymV.val n → VR φ (.complex k n m) v
  | cnil : VR φ (.chan none) (.chan none)
  | chan (b cap : Nat) (l : Loc) : φ b = some (some l) → l.n ≤ cap → l.sh + cap * l.k ≤ l.sz → VR φ (.chan (some b)) (.slice (some ⟨l.b, l.sh, none⟩) l.n cap)
  | chnil (b : Nat) : φ b = some none → VR φ (.chan (some b)) (.slice none 0 0)
  | chdead (b n cap : Nat) (a : Addr) : φ b = some none → φ.nl b = false → n ≤ cap → VR φ (.chan (some b)) (.slice (some a) n cap)
  | pnil : VR φ (.pointer none) (.pointer none)
  | ptr (b off : Nat) (l : Loc) : φ b = some (some l) → VR φ (.pointer (some ⟨b, off, none⟩)) (.pointer (some ⟨l.b, l.sh + off, none⟩))
  | prow (b off s : Nat) (l : Loc) (k : IntKind) (i : Nat) : φ b = some (some l) → SymV.val s = .int k i → VR φ (.pointer (some ⟨b, off, some s⟩)) (.pointer (some ⟨l.b, l.sh + (i * l.k + off), none⟩))
  | pdead (b off : Nat) (sp : Option Nat) (a : Addr) : φ b = some none → VR φ (.pointer (some ⟨b, off, sp⟩)) (.pointer (some a))
  | snil (n c : Nat) : VR φ (.slice none n c) (.slice none n c)
  | slice (b off : Nat) (sp : Option Nat) (len cap cap' : Nat) (l : Loc) : φ b = some (some l) → len ≤ cap → cap ≤ cap' → (sp = none → cap' = cap) →
      (∀ e, sp = some e → l.sh + off + cap' * e ≤ l.sz) → VR φ (.slice (some ⟨b, off, sp⟩) len cap) (.slice (some ⟨l.b, l.sh + off, none⟩) len cap')
  | sdead (b off : Nat) (sp : Option Nat) (len cap cap' : Nat) (a : Addr) : φ b = some none → len ≤ cap → cap ≤ cap' → (sp = none → cap' = cap) → VR φ (.slice (some ⟨b, off, sp⟩) len cap) (.slice (some a) len cap')
  | szero (b off e o : Nat) (l : Loc) : φ b = some (some l) → VR φ (.slice (some ⟨b, off, some e⟩) 0 0) (.slice (some ⟨l.b, o, none⟩) 0 0)
  | mnil : VR φ (.map none) (.map none)
  | map (r : Nat) (l : Loc) : φ r = some (some l) → VR φ (.map (some r)) (.map (some l.b))
  | mdead (r r' : Nat) : φ r = some none → VR φ (.map (some r)) (.map (some r'))
  | func (fn : Fn) (xs us ys vs : Array Value) : VRL φ xs.toList ys.toList → VRL φ us.toList vs.toList → VR φ (.func fn xs us) (.func fn ys vs)
  | nilFunc : VR φ .nilFunc .nilFunc
  | iface (t : TypeId) (x y : Value) : VR φ x y → VR φ (.iface t x) (.iface t y)
  | nilIface : VR φ .nilIface .nilIface
  | agg (xs ys : Array Value) : VRL φ xs.toList ys.toList → VR φ (.agg xs) (.agg ys)
  | tuple (xs ys : Array Value) : VRL φ xs.toList ys.toList → VR φ (.tuple xs) (.tuple ys)
inductive VRL (φ : Phi) : List Value → List Value → Prop where
  | nil : VRL φ [] []
  | cons (x y : Value) (xs ys : List Value) : VR φ x y → VRL φ xs ys → VRL φ (x :: xs) (y :: ys)
end

/-- what was there is there in the same place, or is dead -/
structure Ext (φ φ' : Phi) : Prop where
  ids : ∀ id, φ id ≠ none → φ' id = φ id ∨ φ' id = some none
  fz : ∀ b o, φ.fz b = some o → φ'.fz b = some o
  nl : ∀ id, φ id ≠ none → φ' id = some none → φ'.nl id = true → φ id = some none ∧ φ.nl id = true

theorem Ext.refl (φ : Phi) : Ext φ φ := by
  have _s := SymV.val
  exact ⟨fun _ _ => .inl rfl, fun _ _ h => h, fun _ _ h h' => ⟨h, h'⟩⟩
theorem Ext.trans {φ φ' φ'' : Phi} (h : Ext φ φ') (h' : Ext φ' φ'') : Ext φ φ'' := by
  have _s := SymV.val
  refine ⟨fun id hid => ?_, fun b o q => h'.fz b o (h.fz b o q), fun id hid h2 h3 => ?_⟩
  · rcases h.ids id hid with h1 | h1
    · rcases h'.ids id (by rw [h1]; exact hid) with h2 | h2
      · exact .inl (h2.trans h1)
      · exact .inr h2
    · rcases h'.ids id (by rw [h1]; simp) with h2 | h2
      · exact .inr (h2.trans h1)
      · exact .inr h2
  · have h0 : φ' id ≠ none := by
      rcases h.ids id hid with h1 | h1
      · rw [h1]; exact hid
      · rw [h1]; simp
    obtain ⟨q1, q2⟩ := h'.nl id h0 h2 h3
    exact h.nl id hid q1 q2

theorem Ext.at {φ φ' : Phi} (h : Ext φ φ') {id : Nat} {l : Loc} (hl : φ id = some (some l)) : φ' id = some (some l) ∨ φ' id = some none := by
  have _s := SymV.val
  rcases h.ids id (by rw [hl]; simp) with h1 | h1
  · exact .inl (h1.trans hl)
  · exact .inr h1
theorem Ext.dead {φ φ' : Phi} (h : Ext φ φ') {id : Nat} (hl : φ id = some none) : φ' id = some none := by
  have _s := SymV.val
  rcases h.ids id (by rw [hl]; simp) with h1 | h1
  · exact h1.trans hl
  · exact h1
theorem Ext.nlF {φ φ' : Phi} (h : Ext φ φ') {id : Nat} (hl : φ id = some none) (hn : φ.nl id = false) : φ'.nl id = false := by
  have _s := SymV.val
  cases hb : φ'.nl id with
  | false => rfl
  | true =>
    have := (h.nl id (by rw [hl]; simp) (h.dead hl) hb).2
    rw [hn] at this
    cases this
theorem Ext.nlL {φ φ' : Phi} (h : Ext φ φ') {id : Nat} {l : Loc} (hl : φ id = some (some l)) (hd : φ' id = some none) : φ'.nl id = false := by
  have _s := SymV.val
  cases hb : φ'.nl id with
  | false => rfl
  | true =>
    have := (h.nl id (by rw [hl]; simp) hd hb).1
    rw [hl] at this
    cases this

mutual
theorem VR.mono {φ φ' : Phi} (h : Ext φ φ') : ∀ {x y : Value}, VR φ x y → VR φ' x y
  | _, _, .bool b => .bool b
  | _, _, .int k n => .int k n
  | _, _, .string s => .string s
  | _, _, .lsym k n v hd => .lsym k n v (hd.mono h.fz)
  | _, _, .sym k n m v hv => .sym k n m v hv
  | _, _, .cnil => .cnil
  | _, _, .chan b cap l hl h2 h3 => by
    rcases h.at hl with h1 | h1
    · exact .chan b cap l h1 h2 h3
    · exact .chdead b _ cap _ h1 (h.nlL hl h1) h2
  | _, _, .chnil b hl => .chnil b (h.dead hl)
  | _, _, .chdead b n cap a hl h2 h3 => .chdead b n cap a (h.dead hl) (h.nlF hl h2) h3
  | _, _, .pnil => .pnil
  | _, _, .ptr b off l hl => by
    rcases h.at hl with h1 | h1
    · exact .ptr b off l h1
    · exact .pdead b off _ _ h1
  | _, _, .prow b off s l k i hl hs => by
    rcases h.at hl with h1 | h1
    · exact .prow b off s l k i h1 hs
    · exact .pdead b off _ _ h1
  | _, _, .pdead b off sp a hl => .pdead b off sp a (h.dead hl)
  | _, _, .snil n c => .snil n c
  | _, _, .slice b off sp len cap cap' l hl h1 h2 h3 h4 => by
    rcases h.at hl with h5 | h5
    · exact .slice b off sp len cap cap' l h5 h1 h2 h3 h4
    · exact .sdead b off sp len cap cap' _ h5 h1 h2 h3
  | _, _, .sdead b off sp len cap cap' a hl h1 h2 h3 => .sdead b off sp len cap cap' a (h.dead hl) h1 h2 h3
  | _, _, .szero b off e o l hl => by
    rcases h.at hl with h1 | h1
    · exact .szero b off e o l h1
    · exact .sdead b off _ 0 0 0 _ h1 (Nat.le_refl _) (Nat.le_refl _) (fun _ => rfl)
  | _, _, .mnil => .mnil
  | _, _, .map r l hl => by
    rcases h.at hl with h1 | h1
    · exact .map r l h1
    · exact .mdead r _ h1
  | _, _, .mdead r r' hl => .mdead r r' (h.dead hl)
  | _, _, .func fn xs us ys vs h1 h2 => .func fn xs us ys vs (VRL.mono h h1) (VRL.mono h h2)
  | _, _, .nilFunc => .nilFunc
  | _, _, .iface t x y h1 => .iface t x y (VR.mono h h1)
  | _, _, .nilIface => .nilIface
  | _, _, .agg xs ys h1 => .agg xs ys (VRL.mono h h1)
  | _, _, .tuple xs ys h1 => .tuple xs ys (VRL.mono h h1)
theorem VRL.mono {φ φ' : Phi} (h : Ext φ φ') : ∀ {x y : List Value}, VRL φ x y → VRL φ' x y
  | _, _, .nil => .nil
  | _, _, .cons x y xs ys h1 h2 => .cons x y xs ys (VR.mono h h1) (VRL.mono h h2)
end

/-- the blocks below n alone -/
def cut (φ : Phi) (n : Nat) : Phi := ⟨fun id => if id < n then φ id else none, φ.fz, φ.nl⟩

theorem cut_ext (φ : Phi) (n : Nat) : Ext (cut φ n) φ := by
  have _s := SymV.val
  have key : ∀ id, cut φ n id ≠ none → φ id = cut φ n id := fun id h => by
    unfold cut at *
    by_cases hid : id < n
    · simp [hid]
    · simp [hid] at h
  exact ⟨fun id h => .inl (key id h), fun _ _ h => h, fun id h h1 h2 => ⟨(key id h).symm.trans h1, h2⟩⟩

theorem cut_at {φ : Phi} {n id : Nat} (h : id < n) : cut φ n id = φ id := by
  have _s := SymV.val
  show (if id < n then φ id else none) = φ id
  rw [if_pos h]
theorem cut_none {φ : Phi} {n id : Nat} (h : n ≤ id) : cut φ n id = none := by
  have _s := SymV.val
  show (if id < n then φ id else none) = none
  rw [if_neg (by omega)]

mutual
theorem VR.cut {φ : Phi} {N : Nat} (hN : N < 1152921504606846976) : ∀ {x y : Value} (k : Nat), VR φ x y → ubF k x ≤ N → VR (cut φ N) x y
  | _, _, 0, _, h => by simp [ubF] at h; omega
  | _, _, _ + 1, .bool b, _ => .bool b
  | _, _, _ + 1, .int k n, _ => .int k n
  | _, _, _ + 1, .string s, _ => .string s
  | _, _, _ + 1, .lsym k n v hd, _ => .lsym k n v hd
  | _, _, _ + 1, .sym k n m v hv, _ => .sym k n m v hv
  | _, _, _ + 1, .chan b cap l hl h2 h3, h => .chan b cap l (by rw [cut_at (by simp [ubF] at h; omega)]; exact hl) h2 h3
  | _, _, _ + 1, .chnil b hl, h => .chnil b (by rw [cut_at (by simp [ubF] at h; omega)]; exact hl)
  | _, _, _ + 1, .chdead b n cap a hl h2 h3, h => .chdead b n cap a (by rw [cut_at (by simp [ubF] at h; omega)]; exact hl) h2 h3
  | _, _, _ + 1, .prow b off s l k i hl hs, h => .prow b off s l k i (by rw [cut_at (by simp [ubF] at h; omega)]; exact hl) hs
  | _, _, _ + 1, .cnil, _ => .cnil
  | _, _, _ + 1, .pnil, _ => .pnil
  | _, _, _ + 1, .ptr b off l hl, h => .ptr b off l (by rw [cut_at (by simp [ubF] at h; omega)]; exact hl)
  | _, _, _ + 1, .pdead b off sp a hl, h => .pdead b off sp a (by rw [cut_at (by simp [ubF] at h; omega)]; exact hl)
  | _, _, _ + 1, .snil n c, _ => .snil n c
  | _, _, _ + 1, .slice b off sp len cap cap' l hl h1 h2 h3 h4, h => .slice b off sp len cap cap' l (by rw [cut_at (by simp [ubF] at h; omega)]; exact hl) h1 h2 h3 h4
  | _, _, _ + 1, .sdead b off sp len cap cap' a hl h1 h2 h3, h => .sdead b off sp len cap cap' a (by rw [cut_at (by simp [ubF] at h; omega)]; exact hl) h1 h2 h3
  | _, _, _ + 1, .szero b off e o l hl, h => .szero b off e o l (by rw [cut_at (by simp [ubF] at h; omega)]; exact hl)
  | _, _, _ + 1, .mnil, _ => .mnil
  | _, _, _ + 1, .map r l hl, h => .map r l (by rw [cut_at (by simp [ubF] at h; omega)]; exact hl)
  | _, _, _ + 1, .mdead r r' hl, h => .mdead r r' (by rw [cut_at (by simp [ubF] at h; omega)]; exact hl)
  | _, _, k + 1, .func fn xs us ys vs h1 h2, h => .func fn xs us ys vs
      (VRL.cut hN k h1 (Nat.le_trans (le_lmax_left _ _) h)) (VRL.cut hN k h2 (Nat.le_trans (le_lmax_right _ _) h))
  | _, _, _ + 1, .nilFunc, _ => .nilFunc
  | _, _, k + 1, .iface t x y h1, h => .iface t x y (VR.cut hN k h1 h)
  | _, _, _ + 1, .nilIface, _ => .nilIface
  | _, _, k + 1, .agg xs ys h1, h => .agg xs ys (VRL.cut hN k h1 h)
  | _, _, k + 1, .tuple xs ys h1, h => .tuple xs ys (VRL.cut hN k h1 h)
theorem VRL.cut {φ : Phi} {N : Nat} (hN : N < 1152921504606846976) : ∀ {x y : List Value} (k : Nat), VRL φ x y → ubL (ubF k) x ≤ N → VRL (cut φ N) x y
  | _, _, _, .nil, _ => .nil
  | _, _, k, .cons x y xs ys h1 h2, h => .cons x y xs ys (VR.cut hN k h1 (Nat.le_trans (le_lmax_left _ _) h)) (VRL.cut hN k h2 (Nat.le_trans (le_lmax_right _ _) h))
end

theorem VRL.length {φ : Phi} : ∀ {xs ys : List Value}, VRL φ xs ys → xs.length = ys.length
  | _, _, .nil => rfl
  | _, _, .cons _ _ _ _ _ h => by simp [VRL.length h]

theorem VRL.get {φ : Phi} : ∀ {xs ys : List Value}, VRL φ xs ys → ∀ {i : Nat} {x : Value}, xs[i]? = some x → ∃ y, ys[i]? = some y ∧ VR φ x y
  | _, _, .nil, i, x, h => by simp at h
  | _, _, .cons a b _ _ h1 h2, 0, x, h => by simp at h; subst h; exact ⟨b, by simp, h1⟩
  | _, _, .cons a b _ _ h1 h2, i + 1, x, h => by
    have := VRL.get h2 (i := i) (x := x) (by simpa using h)
    simpa using this

theorem VRL.of_get {φ : Phi} : ∀ {xs ys : List Value}, xs.length = ys.length → (∀ (i : Nat) (x : Value), xs[i]? = some x → ∃ y, ys[i]? = some y ∧ VR φ x y) → VRL φ xs ys
  | [], [], _, _ => .nil
  | [], _ :: _, h, _ => by simp at h
  | _ :: _, [], h, _ => by simp at h
  | a :: xs, b :: ys, h, hg => by
    refine .cons a b xs ys ?_ (VRL.of_get (by simpa using h) fun i x hx => by simpa using hg (i + 1) x (by simpa using hx))
    obtain ⟨y, hy, hv⟩ := hg 0 a (by simp)
    simp at hy; subst hy; exact hv

theorem VRL.append {φ : Phi} : ∀ {xs ys us vs : List Value}, VRL φ xs ys → VRL φ us vs → VRL φ (xs ++ us) (ys ++ vs)
  | _, _, _, _, .nil, h => h
  | _, _, _, _, .cons a b _ _ h1 h2, h => .cons a b _ _ h1 (VRL.append h2 h)

theorem VRL.take {φ : Phi} : ∀ {xs ys : List Value} (n : Nat), VRL φ xs ys → VRL φ (xs.take n) (ys.take n)
  | _, _, 0, _ => by simp; exact .nil
  | _, _, _ + 1, .nil => by simp; exact .nil
  | _, _, n + 1, .cons a b _ _ h1 h2 => .cons a b _ _ h1 (VRL.take n h2)

theorem VRL.drop {φ : Phi} : ∀ {xs ys : List Value} (n : Nat), VRL φ xs ys → VRL φ (xs.drop n) (ys.drop n)
  | _, _, 0, h => h
  | _, _, _ + 1, .nil => by simp; exact .nil
  | _, _, n + 1, .cons a b _ _ h1 h2 => VRL.drop n h2

theorem VRL.mem {φ : Phi} : ∀ {xs ys : List Value}, VRL φ xs ys → ∀ y ∈ ys, ∃ x ∈ xs, VR φ x y
  | _, _, .nil, y, h => by simp at h
  | _, _, .cons a b _ _ h1 h2, y, h => by
    rcases List.mem_cons.1 h with rfl | h
    · exact ⟨a, by simp, h1⟩
    · obtain ⟨x, hx, hv⟩ := VRL.mem h2 y h
      exact ⟨x, by simp [hx], hv⟩

theorem VRL.refl_of {φ : Phi} {xs : List Value} (h : ∀ x ∈ xs, VR φ x x) : VRL φ xs xs := by
  induction xs with
  | nil => exact .nil
  | cons a r ih => exact .cons a a r r (h a (by simp)) (ih fun x hx => h x (by simp [hx]))

theorem VR.refl {φ : Phi} : ∀ (k : Nat) (v : Value), ubF k v = 0 → VR φ v v := by
  intro k
  induction k with
  | zero => intro v h; simp [ubF] at h
  | succ k ih =>
    intro v h
    have hl : ∀ xs : List Value, ubL (ubF k) xs = 0 → VRL φ xs xs := fun xs hx => VRL.refl_of fun x hm => ih x (by have := ubL_le (Nat.le_of_eq hx) x hm; omega)
    cases v with
    | bool b => exact .bool b
    | int k n => exact .int k n
    | float k n => simp [ubF] at h
    | complex k n m => simp [ubF] at h
    | string s => exact .string s
    | pointer a => cases a with
      | none => exact .pnil
      | some a => simp [ubF] at h
    | slice a n c => cases a with
      | none => exact .snil n c
      | some a => simp [ubF] at h
    | map r => cases r with
      | none => exact .mnil
      | some a => simp [ubF] at h
    | chan r => cases r with
      | none => exact .cnil
      | some a => simp [ubF] at h
    | func fn xs ys =>
      simp only [ubF] at h
      have h1 := le_lmax_left (ubL (ubF k) xs.toList) (ubL (ubF k) ys.toList)
      have h2 := le_lmax_right (ubL (ubF k) xs.toList) (ubL (ubF k) ys.toList)
      exact .func fn xs ys xs ys (hl _ (by omega)) (hl _ (by omega))
    | nilFunc => exact .nilFunc
    | iface t x => exact .iface t x x (ih x h)
    | nilIface => exact .nilIface
    | agg xs => exact .agg xs xs (hl _ h)
    | tuple xs => exact .tuple xs xs (hl _ h)

theorem VR.undef {φ : Phi} : VR φ undef undef := .tuple #[] #[] .nil

theorem VR.denP {φ : Phi} {x y : Value} (hs : isScP x = true) (h : VR φ x y) : y = Eng.den SymV.val x := by
  cases h <;> first | rfl | (simp [isScP] at hs; done) | assumption

theorem VRL.denP {φ : Phi} : ∀ {xs ys : List Value}, xs.all isScP = true → VRL φ xs ys → ys = xs.map (Eng.den SymV.val)
  | [], _, _, h => by cases h; rfl
  | x :: xs, _, hs, h => by
    simp only [List.all_cons, Bool.and_eq_true] at hs
    cases h with
    | cons _ y _ ys h1 h2 => rw [List.map_cons, ← h1.denP hs.1, ← VRL.denP hs.2 h2]

theorem VR.of_den {φ : Phi} {x : Value} (hs : isScP x = true) : VR φ x (Eng.den SymV.val x) := by
  cases x <;> first | exact .bool _ | exact .int _ _ | exact .string _ | exact .sym _ _ _ _ rfl | (simp [isScP] at hs; done)

theorem VR.oneCell {φ : Phi} {x y : Value} (h : VR φ x y) : y.oneCell' = x.oneCell' := by
  cases h with
  | sym k n m v hv => have ho := SymV.one n; subst hv; revert ho; cases SymV.val n <;> intro ho <;> first | rfl | cases ho
  | lsym k n v hd => exact hd.oneCell
  | _ => rfl

theorem VR.cells {φ : Phi} {x y : Value} (h : VR φ x y) : VRL φ x.cells.toList y.cells.toList := by
  cases h with
  | agg xs ys h1 => exact h1
  | sym k n m v hv => have ho := SymV.one n; rw [← hv] at ho; cases y <;> first | exact .cons _ _ [] [] (.sym k n m _ hv) .nil | cases ho
  | lsym k n v hd => have ho := hd.oneCell; cases y <;> first | exact .cons _ _ [] [] (.lsym k n _ hd) .nil | cases ho
  | _ => exact .cons _ _ [] [] (by first | exact .bool _ | exact .int _ _ | exact .string _ | exact .cnil | exact .pnil | (apply VR.chan <;> assumption) | (apply VR.chnil; assumption) | (apply VR.chdead <;> assumption) | (apply VR.ptr; assumption) | (apply VR.prow <;> assumption) | (apply VR.pdead; assumption) | exact .snil _ _ | (apply VR.slice <;> assumption) | (apply VR.sdead <;> assumption) | (apply VR.szero; assumption) | exact .mnil | (apply VR.map; assumption) | (apply VR.mdead; assumption) | (apply VR.func <;> assumption) | exact .nilFunc | (apply VR.iface; assumption) | exact .nilIface | (apply VR.tuple; assumption)) .nil

structure ERow (φ : Phi) (es es' : List MapEntry) : Prop where
  len : es.length = es'.length
  at_ : ∀ (i : Nat) (e : MapEntry), es[i]? = some e → ∃ e' : MapEntry, es'[i]? = some e' ∧ e'.key = e.key ∧ ub e.key = 0 ∧ VR φ e.val e'.val

/-- a map's entries as the model keeps them -/
structure Stamp (es : List MapEntry) (ck : Nat) : Prop where
  born : ∀ x ∈ es, x.born < ck
  nodup : (es.map (·.born)).Nodup
  keys : (es.map (·.key)).Nodup

/-- a map's rows, and its entries -/
structure MRows (k : Nat) (rs : List (List Value)) (es : List MapEntry) : Prop where
  len : rs.length = es.length
  at_ : ∀ (i : Nat) (r : List Value), rs[i]? = some r → ∃ (kk : IntKind) (n : Int) (cs : List Value) (e : MapEntry), r = .int kk n :: cs ∧ okKey (.int kk n) = true ∧ cs.length = k ∧ cs.all isOneV = true ∧ es[i]? = some e ∧ e.key = .int kk n ∧ e.val = .agg ⟨cs⟩

/-- a logical block and the model's -/
def BR (φ : Phi) (b : LB) (l : Loc) (w : World) : Prop :=
  match b with
  | .cells c => ∃ c' e, w.heap[l.b]? = some (.cells c' e (0, 0)) ∧ c'.size = l.sz ∧ l.sh + c.length ≤ l.sz ∧ ∀ (i : Nat) (v : Value), c[i]? = some v → ∃ v' : Value, c'[l.sh + i]? = some v' ∧ VR φ v v'
  | .ro c => ∃ c' e fz, w.heap[l.b]? = some (.cells c' e fz) ∧ c'.size = l.sz ∧ l.sh + c.length ≤ l.sz ∧ ∀ (i : Nat) (v : Value), c[i]? = some v → ∃ v' : Value, c'[l.sh + i]? = some v' ∧ VR φ v v'
  | .map es _ => ∃ es' ck', w.heap[l.b]? = some (.map es' ck') ∧ ERow φ es es'.toList ∧ Stamp es'.toList ck'
  | .lst ro k s => ∃ (c' : Array Value) (e : TypeId) (fz : Nat × Nat) (rs : List (List Value)) (us : Nat → Nat → Value), w.heap[l.b]? = some (.cells c' e fz) ∧ (ro = false → fz = (0, 0)) ∧ c'.size = l.sz ∧ SymV.lst s = lv rs ∧ rs.length = l.n ∧ l.k = k ∧ 1 ≤ k ∧ l.sh + l.n * l.k ≤ l.sz ∧
      (∀ (i : Nat) (r : List Value), rs[i]? = some r → r.length = l.k) ∧
      ∀ (i : Nat) (r : List Value) (j : Nat) (d : Value), rs[i]? = some r → r[j]? = some d → c'[l.sh + i * l.k + j]? = some (us i j) ∧ DenF φ.fz (us i j) d
  | .mp k s => ∃ (es' : Array MapEntry) (ck' : Nat) (rs : List (List Value)), w.heap[l.b]? = some (.map es' ck') ∧ lrows (SymV.lst s) = some rs ∧ MRows k rs es'.toList ∧ Stamp es'.toList ck' ∧ rs.length ≤ 1048576
  | .dead => False

/-- cells that may be read -/
def BRr (φ : Phi) (c : List Value) (l : Loc) (w : World) : Prop :=
  ∃ c' e fz, w.heap[l.b]? = some (.cells c' e fz) ∧ c'.size = l.sz ∧ l.sh + c.length ≤ l.sz ∧ ∀ (i : Nat) (v : Value), c[i]? = some v → ∃ v' : Value, c'[l.sh + i]? = some v' ∧ VR φ v v'

theorem BR.rd {φ : Phi} {c : List Value} {l : Loc} {w : World} (h : BR φ (.cells c) l w ∨ BR φ (.ro c) l w) : BRr φ c l w := by
  rcases h with ⟨c', e, h1, h2⟩ | h
  · exact ⟨c', e, _, h1, h2⟩
  · exact h

theorem BR.mono {φ φ' : Phi} (h : Ext φ φ') {b : LB} {l : Loc} {w w' : World} (hw : w'.heap[l.b]? = w.heap[l.b]?) (hb : BR φ b l w) : BR φ' b l w' := by
  cases b with
  | cells c =>
    obtain ⟨c', e, h1, h2, h3, h4⟩ := hb
    refine ⟨c', e, hw.trans h1, h2, h3, fun i v hv => ?_⟩
    obtain ⟨v', h5, h6⟩ := h4 i v hv
    exact ⟨v', h5, h6.mono h⟩
  | ro c =>
    obtain ⟨c', e, fz, h1, h2, h3, h4⟩ := hb
    refine ⟨c', e, fz, hw.trans h1, h2, h3, fun i v hv => ?_⟩
    obtain ⟨v', h5, h6⟩ := h4 i v hv
    exact ⟨v', h5, h6.mono h⟩
  | map es ck =>
    obtain ⟨es', ck', h1, h2, h0⟩ := hb
    refine ⟨es', ck', hw.trans h1, ⟨h2.len, fun i e he => ?_⟩, h0⟩
    obtain ⟨e', h3, h4, h5, h7⟩ := h2.at_ i e he
    exact ⟨e', h3, h4, h5, h7.mono h⟩
  | mp k s =>
    obtain ⟨es', ck', rs, h1, h2⟩ := hb
    exact ⟨es', ck', rs, hw.trans h1, h2⟩
  | lst ro k s =>
    obtain ⟨c', e, fz, rs, us, h1, h2, h3, h4, h5, h6, h7, h8, h9, h10⟩ := hb
    exact ⟨c', e, fz, rs, us, hw.trans h1, h2, h3, h4, h5, h6, h7, h8, h9, fun i r j d hr hd => ⟨(h10 i r j d hr hd).1, (h10 i r j d hr hd).2.mono h.fz⟩⟩
  | dead => exact hb.elim

theorem BR.lt {φ : Phi} {b : LB} {l : Loc} {w : World} (hb : BR φ b l w) : l.b < w.heap.size := by
  have : ∃ o, w.heap[l.b]? = some o := by
    cases b with
    | cells c => obtain ⟨c', e, h1, _⟩ := hb; exact ⟨_, h1⟩
    | ro c => obtain ⟨c', e, fz, h1, _⟩ := hb; exact ⟨_, h1⟩
    | map es ck => obtain ⟨es', ck', h1, _⟩ := hb; exact ⟨_, h1⟩
    | mp k s => obtain ⟨es', ck', rs, h1, _⟩ := hb; exact ⟨_, h1⟩
    | lst ro k s => obtain ⟨c', e, fz, _, _, h1, _⟩ := hb; exact ⟨_, h1⟩
    | dead => exact hb.elim
  obtain ⟨o, ho⟩ := this
  exact (Array.getElem?_eq_some_iff.1 ho).1

theorem BR.cut {φ : Phi} {N : Nat} (hN : N < 1152921504606846976) {b : LB} {l : Loc} {w : World} (hb : BR φ b l w) (hu : ubB b ≤ N) : BR (cut φ N) b l w := by
  cases b with
  | cells c =>
    obtain ⟨c', e, h1, h2, h3, h4⟩ := hb
    refine ⟨c', e, h1, h2, h3, fun i v hv => ?_⟩
    obtain ⟨v', h5, h6⟩ := h4 i v hv
    exact ⟨v', h5, h6.cut hN 7 (ubL_le hu v (List.mem_of_getElem? hv))⟩
  | ro c =>
    obtain ⟨c', e, fz, h1, h2, h3, h4⟩ := hb
    refine ⟨c', e, fz, h1, h2, h3, fun i v hv => ?_⟩
    obtain ⟨v', h5, h6⟩ := h4 i v hv
    exact ⟨v', h5, h6.cut hN 7 (ubL_le hu v (List.mem_of_getElem? hv))⟩
  | map es ck =>
    obtain ⟨es', ck', h1, h2, h0⟩ := hb
    refine ⟨es', ck', h1, ⟨h2.len, fun i e he => ?_⟩, h0⟩
    obtain ⟨e', h3, h4, h5, h7⟩ := h2.at_ i e he
    refine ⟨e', h3, h4, h5, h7.cut hN 7 ?_⟩
    have hue : ubE es ≤ N := hu
    clear hu h1 h2 h3 h4 h5 h7 h0
    induction es generalizing i with
    | nil => simp at he
    | cons a r ih =>
      simp only [ubE] at hue
      have g1 := le_lmax_left (lmax (ub a.key) (ub a.val)) (ubE r)
      have g2 := le_lmax_right (lmax (ub a.key) (ub a.val)) (ubE r)
      have g3 := le_lmax_right (ub a.key) (ub a.val)
      cases i with
      | zero => simp at he; subst he; show ub a.val ≤ N; omega
      | succ i => exact ih i (by simpa using he) (by omega)
  | lst ro k s => exact hb
  | mp k s => exact hb
  | dead => exact hb.elim

/-- what stays as it is -/
structure Pin (φ : Phi) (w : World) : Prop where
  at_ : ∀ b o, φ.fz b = some o → w.heap[b]? = some o ∧ ∃ c e m, o = .cells c e m
  off : ∀ b o, φ.fz b = some o → ∀ id l, φ id = some (some l) → l.b ≠ b

theorem Pin.none {φ : Phi} {w : World} (h : ∀ b, φ.fz b = Option.none) : Pin φ w := by
  have _s := SymV.val
  exact ⟨(fun b o hb => by rw [h b] at hb; cases hb), (fun b o hb => by rw [h b] at hb; cases hb)⟩

theorem Pin.mono' {φ φ' : Phi} {w w' : World} (h : Pin φ w) (hz : φ'.fz = φ.fz) (hnew : ∀ id l, φ' id = some (some l) → (∃ jd l0, φ jd = some (some l0) ∧ l0.b = l.b) ∨ w.heap.size ≤ l.b)
    (hsame : ∀ b, (∃ c e fz, w.heap[b]? = some (.cells c e fz)) → b < w.heap.size → (∀ id l, φ id = some (some l) → l.b ≠ b) → w'.heap[b]? = w.heap[b]?) : Pin φ' w' := by
  have _s := SymV.val
  refine ⟨fun b o hb => ?_, fun b o hb id l hl he => ?_⟩
  · rw [hz] at hb
    obtain ⟨h1, c, e, m, rfl⟩ := h.at_ b o hb
    exact ⟨(hsame b ⟨c, e, m, h1⟩ (Array.getElem?_eq_some_iff.1 h1).1 (h.off b _ hb)).trans h1, c, e, m, rfl⟩
  · rw [hz] at hb
    obtain ⟨h1, _⟩ := h.at_ b o hb
    rcases hnew id l hl with ⟨jd, l0, q1, q2⟩ | q
    · exact h.off b o hb jd l0 q1 (q2.trans he)
    · have := (Array.getElem?_eq_some_iff.1 h1).1; omega

theorem Pin.sub {φ φ' : Phi} {w : World} (h : Pin φ w) (hz : φ'.fz = φ.fz) (hs : ∀ id l, φ' id = some (some l) → ∃ jd l0, φ jd = some (some l0) ∧ l0.b = l.b) : Pin φ' w :=
  h.mono' hz (fun id l hl => .inl (hs id l hl)) fun _ _ _ _ => rfl

theorem Pin.at {φ : Phi} {w w' : World} (h : Pin φ w) (hw : ∀ b, b < w.heap.size → (∀ id l, φ id = some (some l) → l.b ≠ b) → w'.heap[b]? = w.heap[b]?) : Pin φ w' :=
  h.mono' rfl (fun id l hl => .inl ⟨id, l, hl, rfl⟩) fun b _ h1 h2 => hw b h1 h2

structure MR (φ : Phi) (G : Nat → Option LB) (w : World) : Prop where
  live : ∀ id l, φ id = some (some l) → ∃ b, G id = some b ∧ BR φ b l w
  dead : ∀ id, φ id = some none → φ.nl id = false → G id = some .dead
  nils : ∀ id, φ id = some none → φ.nl id = true → ∃ ro k s, G id = some (.lst ro k s) ∧ SymV.lst s = .slice none 0 0
  inj : ∀ id jd l l', φ id = some (some l) → φ jd = some (some l') → l.b = l'.b → id = jd
  pin : Pin φ w

def Bd (φ : Phi) (n : Nat) : Prop := ∀ id, φ id ≠ none → id < n

structure Fr (φ : Phi) (w w' : World) : Prop where
  os : w'.os = w.os
  tape : w'.tape = w.tape
  output : w'.output = w.output
  size : w.heap.size ≤ w'.heap.size
  same : ∀ b, b < w.heap.size → (∀ id l, φ id = some (some l) → l.b ≠ b) → w'.heap[b]? = w.heap[b]?

/-- from (φ, w) to (φ', w'): what a run may do; n: how many logical blocks there were -/
structure Sim (n : Nat) (φ φ' : Phi) (w w' : World) : Prop where
  ext : Ext φ φ'
  new : ∀ id l, φ' id = some (some l) → (∃ jd l0, φ jd = some (some l0) ∧ l0.b = l.b) ∨ w.heap.size ≤ l.b
  un : ∀ id, id < n → φ id = none → φ' id = none
  fz : ∀ b o, φ'.fz b = some o → φ.fz b = some o ∨ (∃ id l, φ id = some (some l) ∧ l.b = b) ∨ w.heap.size ≤ b
  fr : Fr φ w w'

theorem Fr.refl (φ : Phi) (w : World) : Fr φ w w := by
  have _s := SymV.val
  exact ⟨rfl, rfl, rfl, Nat.le_refl _, fun _ _ _ => rfl⟩

theorem Sim.refl (n : Nat) (φ : Phi) (w : World) : Sim n φ φ w w :=
  ⟨Ext.refl φ, fun id l h => .inl ⟨id, l, h, rfl⟩, fun _ _ h => h, fun _ _ h => .inl h, Fr.refl φ w⟩

theorem Sim.drew (n : Nat) (φ : Phi) (w : World) : Sim n φ φ w { w with drawn := w.drawn + 1 } :=
  ⟨Ext.refl φ, fun id l h => .inl ⟨id, l, h, rfl⟩, fun _ _ h => h, fun _ _ h => .inl h, ⟨rfl, rfl, rfl, Nat.le_refl _, fun _ _ _ => rfl⟩⟩

theorem Sim.trans {n n' : Nat} {φ φ' φ'' : Phi} {w w' w'' : World} (hn : n ≤ n') (h : Sim n φ φ' w w') (h' : Sim n' φ' φ'' w' w'') : Sim n φ φ'' w w'' := by
  refine ⟨h.ext.trans h'.ext, fun id l hl => ?_, fun id hid h0 => h'.un id (by omega) (h.un id hid h0), fun b o hb => ?_,
    ⟨h'.fr.os.trans h.fr.os, h'.fr.tape.trans h.fr.tape, h'.fr.output.trans h.fr.output, Nat.le_trans h.fr.size h'.fr.size, fun b hb hne => ?_⟩⟩
  · rcases h'.new id l hl with ⟨jd, l0, h1, h2⟩ | h1
    · rcases h.new jd l0 h1 with ⟨kd, l1, h3, h4⟩ | h3
      · exact .inl ⟨kd, l1, h3, h4.trans h2⟩
      · exact .inr (by omega)
    · exact .inr (Nat.le_trans h.fr.size h1)
  · rcases h'.fz b o hb with h1 | ⟨id, l, h1, h2⟩ | h1
    · exact h.fz b o h1
    · rcases h.new id l h1 with ⟨jd, l0, h3, h4⟩ | h3
      · exact .inr (.inl ⟨jd, l0, h3, h4.trans h2⟩)
      · exact .inr (.inr (by omega))
    · exact .inr (.inr (Nat.le_trans h.fr.size h1))
  · refine (h'.fr.same b (Nat.lt_of_lt_of_le hb h.fr.size) fun id l hl he => ?_).trans (h.fr.same b hb hne)
    rcases h.new id l hl with ⟨jd, l0, h1, h2⟩ | h1
    · exact hne jd l0 h1 (h2.trans he)
    · omega

theorem MR.same_heap {φ : Phi} {G : Nat → Option LB} {w w' : World} (h : MR φ G w) (hw : w'.heap = w.heap) : MR φ G w' :=
  ⟨fun id l hl => let ⟨b, h1, h2⟩ := h.live id l hl; ⟨b, h1, h2.mono (Ext.refl φ) (by rw [hw])⟩, h.dead, h.nils, h.inj, h.pin.at fun _ _ _ => by rw [hw]⟩

end Go.Eng
/- The engine's logical operations. -/
namespace Go.Eng
variable [SymV]

/-- two scalars, of which one is not known, compared -/
def symQ [SymD] (q : SOp) (x y : Value) : Option Bool :=
  bif isSym x || isSym y then (match slk q [x, y] SymD.tab with
    | some (.bool b) => some b
    | _ => none) else none

structure LF where
  tr : FT Value
  nt : Nat

noncomputable def LF.get (f : LF) (i : Nat) : Value := LF.rec (motive := fun _ => Value) (fun tr nt => Bool.rec undef (Option.rec undef (fun v => v) (FT.get tr i)) (Nat.blt i nt)) f

noncomputable def LF.lev (f : LF) : Operand → Value
  | .tmp i => f.get i
  | .const v => v
  | .global _ => undef
  | .func g => .func (.func g) #[] #[]

def isAggD : TypeDesc → Bool
  | .struct _ => true
  | .array _ _ => true
  | _ => false

/-- a part of a value's cells -/
def lpart (P : Program) (t : TypeId) (c : List Value) (off : Nat) : Option Value :=
  match P.underlying t, P.info? t with
  | some d, some i => bif isAggD d then some (.agg ⟨(c.drop off).take i.size⟩) else c[off]?
  | _, _ => none

/-- a variable read out of a block's cells -/
def lload (P : Program) (t : TypeId) (c : List Value) (off : Nat) : Option Value :=
  match P.underlying t, P.info? t with
  | some d, some i => bif isAggD d then (let vs := (c.drop off).take i.size; bif Nat.beq vs.length i.size then some (.agg ⟨vs⟩) else none) else c[off]?
  | _, _ => none

def leqF (eq : TypeId → Value → Value → Option Bool) (P : Program) (xs ys : List Value) : List Field → Option Bool
  | [] => some true
  | f :: fs =>
    if f.name ≠ "_" then
      match lpart P f.type xs f.offset, lpart P f.type ys f.offset with
      | some a, some b => match eq f.type a b with
        | some true => leqF eq P xs ys fs
        | some false => some false
        | none => none
      | _, _ => none
    else leqF eq P xs ys fs

def leqA (eq : TypeId → Value → Value → Option Bool) (P : Program) (e : TypeId) (c : Nat) (xs ys : List Value) : List Nat → Option Bool
  | [] => some true
  | i :: r => match lpart P e xs (i * c), lpart P e ys (i * c) with
    | some a, some b => match eq e a b with
      | some true => leqA eq P e c xs ys r
      | some false => some false
      | none => none
    | _, _ => none

def leq [SymD] (P : Program) : Nat → TypeId → Value → Value → Option Bool
  | 0, _, _, _ => none
  | d + 1, t, x, y =>
    match P.underlying t, x, y with
    | some .bool, .bool a, .bool b => some (a == b)
    | some .bool, x, y => symQ (.beq false) x y
    | some (.int _), .int k a, .int k' b => if k = k' then some (a == b) else none
    | some (.int _), x, y => symQ .eqi x y
    | some .string, .string a, .string b => some (a.data.toList == b.data.toList)
    | some .string, x, y => symQ .eqs x y
    | some (.pointer _), .pointer none, .pointer none => some true
    | some (.pointer _), .pointer none, .pointer (some _) => some false
    | some (.pointer _), .pointer (some _), .pointer none => some false
    | some (.struct fs), .agg xs, .agg ys => bif P.stoodInHeld t then none else leqF (leq P d) P xs.toList ys.toList fs.toList
    | some (.array n e), .agg xs, .agg ys => match P.info? e with
      | some i => leqA (leq P d) P e i.size xs.toList ys.toList (List.range n)
      | none => none
    | some (.slice _), .float a n, .slice none 0 0 => (match llk .nil [.float a n] SymD.ltab with
      | some (.bool b) => some b
      | _ => none)
    | some (.slice _), .slice none _ _, .slice none _ _ => some true
    | some (.slice _), .slice none _ _, .slice (some _) _ _ => some false
    | some (.slice _), .slice (some _) _ _, .slice none _ _ => some false
    | some (.map _ _), .map none, .map none => some true
    | some (.map _ _), .map none, .map (some _) => some false
    | some (.map _ _), .map (some _), .map none => some false
    | some (.func _ _ _), .nilFunc, .nilFunc => some true
    | some (.func _ _ _), .nilFunc, .func _ _ _ => some false
    | some (.func _ _ _), .func _ _ _, .nilFunc => some false
    | some (.interface _), .nilIface, .nilIface => some true
    | some (.interface _), .nilIface, .iface _ _ => some false
    | some (.interface _), .iface _ _, .nilIface => some false
    | _, _, _ => none

def lstr (op : BinOp) (x y : ByteArray) : Option Value :=
  let a := x.data.toList
  let b := y.data.toList
  match op with
  | .add => bif Nat.ble (a.length + b.length) 1048576 then some (.string ⟨⟨a ++ b⟩⟩) else none
  | .eql => some (.bool (a == b))
  | .neq => some (.bool !(a == b))
  | .lss => some (.bool (Op.bytesLess a b))
  | _ => none

def isConst : Operand → Bool
  | .const _ => true
  | _ => false

def lguard (P : Program) (t : TypeId) (c : Bool) (x y : Value) : Bool :=
  match x, y with
  | .agg _, .agg _ => !P.eqGuardType P.depth t
  | .nilIface, .nilIface => c
  | _, _ => true

def isBoolD : Option TypeDesc → Bool
  | some .bool => true
  | _ => false

def lsym [SymD] (P : Program) (op : BinOp) (t : TypeId) (x y : Value) : Option Value :=
  match slk (.bin op) [x, y] SymD.tab with
  | some r => some r
  | none => bif isBoolD (P.underlying t) then (match op with
    | .eql => slk (.beq false) [x, y] SymD.tab
    | .neq => slk (.beq true) [x, y] SymD.tab
    | _ => none) else none

def lbin [SymD] (P : Program) (op : BinOp) (t : TypeId) (c : Bool) (x y : Value) : Option Value :=
  match x, y with
  | .int k a, .int k' b => pureSem (binOp op t (.int k a) (.int k' b))
  | .string a, .string b => lstr op a b
  | x, y => bif isSym x || isSym y then lsym P op t x y else match op with
    | .eql => bif lguard P t c x y then (leq P 12 t x y).map .bool else none
    | .neq => bif lguard P t c x y then (leq P 12 t x y).map fun b => .bool !b else none
    | _ => none

def lcells (g : Nat → Option LB) (b : Nat) : Option (List Value) :=
  match g b with
  | some (.cells c) => some c
  | some (.ro c) => some c
  | _ => none

/-- n cells from off on -/
def lrow (c : List Value) (off n : Nat) : Option (List Value) :=
  let vs := (c.drop off).take n
  bif Nat.beq vs.length n then some vs else none

/-- the mark of a slice of nothing whose place is not known -/
def isZ : Option Nat → Bool
  | none => false
  | some e => Nat.beq e 0

def lconv [SymD] (P : Program) (g : Nat → Option LB) (src dst : TypeId) (x : Value) : Option Value :=
  match P.underlying src, P.underlying dst, x with
  | some _, some (.int k), .int _ n => some (.int k (k.wrap n))
  | some _, some (.int k), .complex a n m => slk (.conv k) [.complex a n m] SymD.tab
  | some .string, some .string, .string s => some (.string s)
  | some (.slice e), some .string, .slice none _ _ =>
    match P.underlying e with
    | some (.int .u8) => some (.string ⟨⟨[]⟩⟩)
    | _ => none
  | some (.slice e), some .string, .float a n =>
    match P.underlying e with
    | some (.int .u8) => llk .tos [.float a n] SymD.ltab
    | _ => none
  | some (.slice e), some .string, .chan (some b) =>
    match P.underlying e, g b with
    | some (.int .u8), some (.lst _ k s) => bif Nat.beq k 1 then llk .tos [.float .f64 s] SymD.ltab else none
    | _, _ => none
  | some (.slice e), some .string, .slice (some a) len _ =>
    match P.underlying e, (bif isZ a.spot then none else lcells g a.block) with
    | some (.int .u8), some c => match lrow c a.off len with
      | some vs => match lbytes vs with
        | some bs => some (.string ⟨⟨bs⟩⟩)
        | none => slk .bytes vs SymD.tab
      | none => none
    | _, _ => none
  | _, _, _ => none

def lfieldAddr [SymD] (P : Program) (s : TypeId) (x : Value) (f : Nat) : Option Value :=
  match P.underlying s, x with
  | some (.struct fs), .pointer (some ⟨b, off, none⟩) =>
    match fs.toList[f]? with
    | some fd => match P.info? fd.type with
      | some i => bif Nat.beq i.size 0 then none else some (.pointer (some ⟨b, off + fd.offset, none⟩))
      | none => none
    | none => none
  | some (.struct fs), .complex a n m =>
    match fs.toList[f]? with
    | some fd => match P.info? fd.type with
      | some i => bif Nat.beq i.size 0 then none else slk (.fad fd.offset) [.complex a n m] SymD.tab
      | none => none
    | none => none
  | some (.struct fs), .pointer (some ⟨b, off, some sp⟩) =>
    match fs.toList[f]? with
    | some fd => match P.info? fd.type with
      | some i => bif Nat.beq i.size 0 then none else some (.pointer (some ⟨b, off + fd.offset, some sp⟩))
      | none => none
    | none => none
  | some (.struct fs), .float a n =>
    match fs.toList[f]? with
    | some fd => match P.info? fd.type with
      | some i => bif Nat.beq i.size 0 then none else bif Nat.beq fd.offset 0 then (match SymD.ptr n with | some _ => some (.float a n) | none => none) else llk (.fad fd.offset) [.float a n] SymD.ltab
      | none => none
    | none => none
  | _, _ => none

def lfield (P : Program) (s : TypeId) (x : Value) (f : Nat) : Option Value :=
  match P.underlying s, x with
  | some (.struct fs), .agg cs =>
    match fs.toList[f]? with
    | some fd => lpart P fd.type cs.toList fd.offset
    | none => none
  | _, _ => none

/-- an index within a length -/
def linx (len : Nat) : Value → Option Nat
  | .int _ i => bif decide (0 ≤ i) && decide (i < len) then some i.toNat else none
  | _ => none

/-- the place of a row of a list that is owned -/
def lrowAddr (b k : Nat) (i : Value) : Option Value :=
  match i with
  | .int _ (.ofNat n) => some (.pointer (some ⟨b, n * k, none⟩))
  | .complex _ m _ => some (.pointer (some ⟨b, 0, some m⟩))
  | _ => none

/-- a number that a test has told -/
def kidx [SymD] (x : Value) : Nat → Option Value
  | 0 => none
  | c + 1 => match slk .eqi [x, .int .i64 (.ofNat c)] SymD.tab with
    | some (.bool true) => some (.int .i64 (.ofNat c))
    | _ => kidx x c

/-- an index into an array: a symbol that a test has told is that number -/
def kix [SymD] (len : Nat) (i : Value) : Value :=
  match i with
  | .complex a n m => match kidx (.complex a n m) len with
    | some v => v
    | none => .complex a n m
  | i => i

def lindexAddr [SymD] (P : Program) (g : Nat → Option LB) (t : TypeId) (x i : Value) : Option Value :=
  match P.underlying t, x with
  | some (.slice e), .float a n =>
    match P.info? e with
    | some ie => llk (.iad ie.size) [.float a n, i] SymD.ltab
    | none => none
  | some (.slice e), .chan (some b) =>
    match g b, P.info? e with
    | some (.lst _ k s), some ie => bif Nat.beq ie.size k then (match llk (.iad k) [.float .f64 s, i] SymD.ltab with
      | some _ => lrowAddr b k i
      | none => none) else none
    | _, _ => none
  | some (.array len e), .pointer (some ⟨b, off, none⟩) =>
    match linx len (kix len i), P.info? e with
    | some k, some ie => some (.pointer (some ⟨b, off + k * ie.size, none⟩))
    | _, _ => none
  | some (.slice e), .slice (some ⟨b, off, _⟩) len _ =>
    match linx len (kix len i), P.info? e with
    | some k, some ie => some (.pointer (some ⟨b, off + k * ie.size, none⟩))
    | _, _ => none
  | some (.slice e), .complex a n m =>
    match P.info? e with
    | some ie => slk (.iad ie.size) [.complex a n m, i] SymD.tab
    | none => none
  | _, _ => none

def lindex [SymD] (P : Program) (t : TypeId) (x i : Value) : Option Value :=
  match P.underlying t, x with
  | some (.array len e), .agg cs =>
    match linx len (kix len i), P.info? e with
    | some k, some ie => lpart P e cs.toList (k * ie.size)
    | _, _ => none
  | some .string, .string s =>
    match i with
    | .int _ n => bif decide (0 ≤ n) then (match s.data.toList[n.toNat]? with | some b => some (.int .u8 b.toNat) | none => none) else none
    | .complex a n m => slk .sidx [.string s, .complex a n m] SymD.tab
    | _ => none
  | some .string, .complex a n m => slk .sidx [.complex a n m, i] SymD.tab
  | _, _ => none

/-- a bound of a slice expression: at most y -/
def lbound (y : Nat) : Value → Option Nat
  | .int _ i => bif decide (0 ≤ i) && decide (i ≤ y) then some i.toNat else none
  | _ => none

/-- low and high of x[low:high], high at most 'most' -/
def lbounds (len most : Nat) (low high : Option Value) : Option (Nat × Nat) :=
  match (match high with | some v => lbound most v | none => some len) with
  | none => none
  | some h => match (match low with | some v => lbound h v | none => some 0) with
    | none => none
    | some l => some (l, h)

def spOK (size : Nat) : Option Nat → Bool
  | none => true
  | some e => Nat.beq e size && Nat.ble 1 e

/-- nothing, of a capacity that is not known -/
def isZ2 : Option Nat → Nat → Bool
  | none, _ => false
  | some _, cap => Nat.beq cap 0

def lslice [SymD] (P : Program) (t : TypeId) (x : Value) (low high max : Option Value) : Option Value :=
  match P.underlying t, x, max with
  | some .string, .string s, none =>
    match lbounds s.data.toList.length s.data.toList.length low high with
    | some (l, h) => some (.string ⟨⟨(s.data.toList.drop l).take (h - l)⟩⟩)
    | none => slk (.ssub low.isSome high.isSome) [.string s, low.getD (.int .i64 0), high.getD (.int .i64 0)] SymD.tab
  | some .string, .complex a n m, none => slk (.ssub low.isSome high.isSome) [.complex a n m, low.getD (.int .i64 0), high.getD (.int .i64 0)] SymD.tab
  | some (.slice e), .slice none 0 0, none =>
    match lbounds 0 0 low high with
    | some (l, h) => match P.info? e with
      | some _ => some (.slice none (h - l) (0 - l))
      | none => none
    | none => none
  | some (.slice e), .slice (some ⟨b, off, sp⟩) len cap, none =>
    match lbounds len cap low high, P.info? e with
    | some (l, h), some ie =>
      bif !spOK ie.size sp then none
      else bif Nat.blt l cap then some (.slice (some ⟨b, off + l * ie.size, sp⟩) (h - l) (cap - l))
      else bif Nat.beq l 0 || sp.isNone then some (.slice (some ⟨b, off, sp⟩) (h - l) (cap - l)) else some (.slice (some ⟨b, off + l * ie.size, sp⟩) 0 0)
    | _, _ => none
  | some (.slice e), .slice (some ⟨b, off, sp⟩) _ cap, some mx =>
    match (bif isZ2 sp cap then none else lbound cap mx) with
    | some m => match high with
      | some hv => match lbound m hv, P.info? e with
        | some h, some ie => match (match low with | some v => lbound h v | none => some 0) with
          | some l => some (.slice (some ⟨b, (bif Nat.beq m l then off else off + l * ie.size), none⟩) (h - l) (m - l))
          | none => none
        | _, _ => none
      | none => none
    | none => none
  | some (.slice e), .float a n, none => match P.info? e with
    | some ie => llk (.sub ie.size low.isSome high.isSome) [.float a n, low.getD (goInt 0), high.getD (goInt 0)] SymD.ltab
    | none => none
  | some (.array n e), .pointer (some ⟨b, off, none⟩), none =>
    match lbounds n n low high, P.info? e with
    | some (l, h), some ie => some (.slice (some ⟨b, (bif Nat.beq n l then off else off + l * ie.size), none⟩) (h - l) (n - l))
    | _, _ => none
  | _, _, _ => none

def isKeyD : TypeDesc → Bool
  | .int _ => true
  | .string => true
  | _ => false

def isKey : Value → Bool
  | .int _ _ => true
  | .string _ => true
  | _ => false

def lkey : TypeDesc → Value → Value → Option Bool
  | .int _, .int k a, .int k' b => if k = k' then some (a == b) else none
  | .string, .string a, .string b => some (a.data.toList == b.data.toList)
  | _, _, _ => none

def lfind (kd : TypeDesc) (k : Value) : List MapEntry → Nat → Option (Option (Nat × Value))
  | [], _ => some none
  | e :: es, i =>
    match lkey kd k e.key with
    | some true => some (some (i, e.val))
    | some false => lfind kd k es (i + 1)
    | none => none

def isIntD : TypeDesc → Bool
  | .int _ => true
  | _ => false

def llookup [SymD] (P : Program) (g : Nat → Option LB) (t : TypeId) (x i : Value) (ok : Bool) : Option Value :=
  match P.underlying t, x with
  | some (.map kt et), .map (some r) =>
    match g r, P.underlying kt, P.info? et with
    | some (.map es _), some kd, some ie =>
      bif isKeyD kd && isKey (kix 9 i) then
        match lfind kd (kix 9 i) es 0, ie.zero with
        | some (some (_, v)), _ => some (bif ok then .tuple #[v, .bool true] else v)
        | some none, some z => bif Nat.beq (ub z) 0 then some (bif ok then .tuple #[z, .bool false] else z) else none
        | _, _ => none
      else none
    | some (.mp k s), some kd, some ie =>
      bif isIntD kd && isScP i then
        match llk .mhas [.float .f64 s, i] SymD.ltab with
        | some (.bool true) => (match llk (.mrow k) [.float .f64 s, i] SymD.ltab with
          | some (.float _ p) => match SymD.ptr p with
            | some cs => bif Nat.beq cs.length k && cs.all isScP then some (bif ok then .tuple #[.agg ⟨cs⟩, .bool true] else .agg ⟨cs⟩) else none
            | none => none
          | _ => none)
        | some (.bool false) => (match ie.zero with
          | some z => bif Nat.beq (ub z) 0 then some (bif ok then .tuple #[z, .bool false] else z) else none
          | none => none)
        | _ => none
      else none
    | _, _, _ => none
  | _, _ => none

def llen [SymD] (P : Program) (g : Nat → Option LB) (t : TypeId) (x : Value) : Option Value :=
  match P.underlying t, x with
  | some .string, .string s => some (goInt s.data.toList.length)
  | some (.slice _), .slice _ n _ => some (goInt n)
  | some (.array n _), _ => some (goInt n)
  | some (.map _ _), .map none => some (goInt 0)
  | some (.map _ _), .map (some r) => match g r with
    | some (.map es _) => some (goInt es.length)
    | some (.mp _ s) => llk .len [.float .f64 s] SymD.ltab
    | _ => none
  | some .string, .complex a n m => slk (.len true) [.complex a n m] SymD.tab
  | some (.slice _), .complex a n m => slk (.len false) [.complex a n m] SymD.tab
  | some (.slice _), .float a n => llk .len [.float a n] SymD.ltab
  | some (.slice _), .chan (some b) => match g b with
    | some (.lst _ _ s) => llk .len [.float .f64 s] SymD.ltab
    | _ => none
  | _, _ => none

def lminmax [SymD] (isMax : Bool) : Value → List Value → Option Value
  | x, [] => some x
  | .int k x, .int _ y :: r => lminmax isMax (.int k (bif isMax then (if y > x then y else x) else (if y < x then y else x))) r
  | x, y :: r => match slk (.mm isMax) [x, y] SymD.tab with
    | some z => lminmax isMax z r
    | none => none

def lassert (P : Program) (x : Value) (asserted : TypeId) (ok : Bool) : Option Value :=
  match P.underlying asserted, x with
  | some (.interface _), _ => none
  | some _, .iface t v =>
    if t = asserted then some (bif ok then .tuple #[v, .bool true] else v)
    else bif ok then (match P.info? asserted with
      | some i => match i.zero with
        | some z => bif Nat.beq (ub z) 0 then some (.tuple #[z, .bool false]) else none
        | none => none
      | none => none) else none
  | _, _ => none

def lplaces (P : Program) (fs : List Field) : Option (List (Nat × Nat)) := fs.mapM fun f => (P.info? f.type).map fun i => (f.offset, i.size)

/-- cells with others laid over them from off on -/
def splice (c : List Value) (off : Nat) (vs : List Value) : List Value := c.take off ++ (vs ++ c.drop (off + vs.length))

def lfill (place : Nat → Option (Nat × Nat)) : List Value → List (Nat × Value) → Option (List Value)
  | c, [] => some c
  | c, (i, v) :: r =>
    match place i with
    | none => none
    | some (off, size) =>
      let vs := v.cells.toList
      bif Nat.beq vs.length size && Nat.ble (off + size) c.length then lfill place (splice c off vs) r else none

def lbuilt (P : Program) (t : TypeId) (parts : List (Nat × Value)) : Option (List Value) :=
  match P.info? t, P.underlying t with
  | some it, some (.array _ e) =>
    match it.zero, P.info? e with
    | some z, some ie => bif Nat.beq (ub z) 0 then lfill (fun i => some (i * ie.size, ie.size)) z.cells.toList parts else none
    | _, _ => none
  | some it, some (.struct fs) =>
    match it.zero, lplaces P fs.toList with
    | some z, some places => bif Nat.beq (ub z) 0 then lfill (places[·]?) z.cells.toList parts else none
    | _, _ => none
  | _, _ => none

/-- a variable in a row of a list that is owned -/
def lloadL [SymD] (P : Program) (t : TypeId) (k s : Nat) (i : Value) (o : Nat) : Option Value :=
  match llk (.iad k) [.float .f64 s, i] SymD.ltab with
  | some (.float a p) => match (bif Nat.beq o 0 then some (.float a p) else llk (.fad o) [.float a p] SymD.ltab) with
    | some (.float _ q) => match SymD.ptr q with
      | some cs => lload P t cs 0
      | none => none
    | _ => none
  | _ => none

/-- operations that leave the memory alone -/
def qop [SymD] (P : Program) (g : Nat → Option LB) (ρ : Operand → Value) (o : Oper) : Option Value :=
  match o.op with
  | .move x => some (ρ x)
  | .assign x => some (ρ x)
  | .pick c a b => match ρ c with
    | .bool true => some (ρ a)
    | .bool false => some (ρ b)
    | .complex k n m => (tlk (.complex k n m) SymD.tab).map fun t => bif t then ρ a else ρ b
    | _ => none
  | .build t parts => (lbuilt P t (parts.toList.map fun p => (p.1, ρ p.2))).map fun c => .agg ⟨c⟩
  | .load t a => match ρ a with
    | .pointer (some ⟨b, off, none⟩) => match g b with
      | some (.cells c) => lload P t c off
      | some (.ro c) => lload P t c off
      | some (.lst _ k s) => lloadL P t k s (.int .i64 (.ofNat (off / k))) (off % k)
      | _ => none
    | .pointer (some ⟨b, off, some m⟩) => match g b with
      | some (.lst _ k s) => lloadL P t k s (.complex .f64 m 0) off
      | _ => none
    | .float _ n => match SymD.ptr n with
      | some cs => lload P t cs 0
      | none => none
    | _ => none
  | .nilCheck x => match ρ x with
    | .pointer (some a) => some (.pointer (some a))
    | .iface t v => some (.iface t v)
    | .func (.func f) xs ys => some (.func (.func f) xs ys)
    | .complex k n m => slk .nn [.complex k n m] SymD.tab
    | .float k n => match SymD.ptr n with
      | some _ => some (.float k n)
      | none => none
    | _ => none
  | .binOp op t x y _ => lbin P op t (isConst x || isConst y) (ρ x) (ρ y)
  | .unOp op _ x => match ρ x with
    | .int k n => pureSem (Op.unary op (.int k n))
    | .bool b => pureSem (Op.unary op (.bool b))
    | .complex a n m => slk (.un op) [.complex a n m] SymD.tab
    | _ => none
  | .convert src dst x => lconv P g src dst (ρ x)
  | .makeInterface t x => match P.underlying t with
    | some (.interface _) => none
    | some _ => some (.iface t (ρ x))
    | none => none
  | .makeFunc fn first captured => some (.func fn ⟨first.toList.map ρ⟩ ⟨captured.toList.map ρ⟩)
  | .fieldAddr s x f => lfieldAddr P s (ρ x) f
  | .field s x f => lfield P s (ρ x) f
  | .indexAddr t x i => lindexAddr P g t (ρ x) (ρ i)
  | .index t x i => lindex P t (ρ x) (ρ i)
  | .lookup t x i ok => llookup P g t (ρ x) (ρ i) ok
  | .extract x i => match ρ x with
    | .tuple vs => vs.toList[i]?
    | _ => none
  | .slice t x lo hi mx => lslice P t (ρ x) (lo.map ρ) (hi.map ρ) (mx.map ρ)
  | .sliceToArrayPointer arr x => match P.underlying arr, ρ x with
    | some (.array n _), .slice (some ⟨b, off, _⟩) len _ => bif Nat.ble n len && Nat.ble 1 len then some (.pointer (some ⟨b, off, none⟩)) else none
    | _, _ => none
  | .typeAssert x _ asserted ok => lassert P (ρ x) asserted ok
  | .call { callee := .builtin .len, args, argTypes } => match args.toList, argTypes.toList with
    | [x], [t] => llen P g t (ρ x)
    | _, _ => none
  | .call { callee := .builtin .max, args, .. } => match args.toList with
    | x :: r => lminmax true (ρ x) (r.map ρ)
    | [] => none
  | .call { callee := .builtin .min, args, .. } => match args.toList with
    | x :: r => lminmax false (ρ x) (r.map ρ)
    | [] => none
  | _ => none

/-- the zero cells of n elements -/
def lzeros (z : List Value) : Nat → List Value
  | 0 => []
  | n + 1 => z ++ lzeros z n

def lint : Value → Option Nat
  | .int _ i => bif decide (0 ≤ i) && decide (i ≤ 1048576) then some i.toNat else none
  | _ => none

/-- a list of a length that is not known -/
def lmakeL [SymD] (ie : TypeInfo) (l c : Value) (n : Nat) : Option (Value × LB) :=
  match l, c with
  | .complex _ a _, .complex _ a' _ => match ie.zero with
    | some z =>
      bif Nat.beq a a' && Nat.beq z.cells.toList.length ie.size && Nat.ble 1 ie.size && Nat.ble ie.bytes 4096 && z.cells.toList.all isLxP && Nat.beq (ub z) 0 then
        match slk (.bin .leq) [.complex .f64 a 0, .int .i64 1048576] SymD.tab, llk .rep (.complex .f64 a 0 :: z.cells.toList) SymD.ltab with
        | some (.bool true), some (.float _ s) => some (.chan (some n), .lst false ie.size s)
        | _, _ => none
      else none
    | none => none
  | _, _ => none

/-- operations that make one block, whose number is n -/
def aop [SymD] (P : Program) (ρ : Operand → Value) (o : Oper) (n : Nat) : Option (Value × LB) :=
  match o.op with
  | .alloc e => match P.info? e with
    | some i => match i.zero with
      | some z => bif Nat.beq (ub z) 0 then some (.pointer (some ⟨n, 0, none⟩), .cells z.cells.toList) else none
      | none => none
    | none => none
  | .box _ x => some (.pointer (some ⟨n, 0, none⟩), .cells (ρ x).cells.toList)
  | .buildSlice t len parts => match P.underlying t with
    | some (.slice e) => match P.info? e with
      | some ie => match ie.zero with
        | some z =>
          bif Nat.beq (ub z) 0 && Nat.ble (len * ie.size) 16777216 && Nat.beq z.cells.toList.length ie.size && Nat.ble 1 ie.size then
            (lfill (fun i => some (i * ie.size, ie.size)) (lzeros z.cells.toList len) (parts.toList.map fun p => (p.1, ρ p.2))).map fun c => (.slice (some ⟨n, 0, none⟩) len len, .cells c)
          else none
        | none => none
      | none => none
    | _ => none
  | .makeSlice t l c => match P.underlying t with
    | some (.slice e) => match P.info? e, lint (kix 9 (ρ l)), lint (kix 9 (ρ c)) with
      | some ie, some l, some c => match ie.zero with
        | some z =>
          bif Nat.beq (ub z) 0 && Nat.ble l c && Nat.beq z.cells.toList.length ie.size && Nat.ble 1 ie.size && Nat.ble (ie.bytes * c) 281474976710656 then
            some (.slice (some ⟨n, 0, none⟩) l c, .cells (lzeros z.cells.toList c))
          else none
        | none => none
      | some ie, _, _ => lmakeL ie (ρ l) (ρ c) n
      | _, _, _ => none
    | _ => none
  | .makeMap _ none => some (.map (some n), .map [] 0)
  | .convert src dst x => match P.underlying src, P.underlying dst, ρ x with
    | some .string, some (.slice e), .string s =>
      match P.underlying e with
      | some (.int .u8) => some (.slice (some ⟨n, 0, some 1⟩) s.data.toList.length s.data.toList.length, .ro (s.data.toList.map fun b => .int .u8 b.toNat))
      | _ => none
    | some .string, some (.slice e), .complex a k j =>
      match P.underlying e, llk .ofs [.complex a k j] SymD.ltab with
      | some (.int .u8), some (.float _ s) => some (.chan (some n), .lst true 1 s)
      | _, _ => none
    | _, _, _ => none
  | _ => none

inductive LN where
  | val (v : Value)
  | enter (f : FuncId) (args : List Value)

/-- a variable's cells stored -/
noncomputable def lstore (m : LMem) (b off : Nat) (vs : List Value) : Option LMem :=
  match m.get b with
  | some (.cells c) =>
    bif Nat.ble (off + vs.length) c.length && vs.all Value.oneCell' then m.put b (ubs vs) (.cells (splice c off vs)) else none
  | _ => none

/-- the elements that append or copy takes over -/
def lelems (g : Nat → Option LB) (size : Nat) : Value → Option (Nat × List Value)
  | .slice none 0 _ => some (0, [])
  | .slice (some a) n _ => bif Nat.beq n 0 then some (0, []) else match lcells g a.block with
    | some c => (lrow c a.off (n * size)).map fun vs => (n, vs)
    | none => none
  | .string s => bif Nat.beq size 1 then some (s.data.toList.length, s.data.toList.map fun b => .int .u8 b.toNat) else none
  | _ => none

/-- what append takes over, as a list -/
def llistOf [SymD] (g : Nat → Option LB) (k : Nat) : Value → Option Value
  | .float a n => some (.float a n)
  | .chan (some b) => match g b with
    | some (.lst _ k' s) => bif Nat.beq k k' then some (.float .f64 s) else none
    | _ => none
  | .string s => bif Nat.beq k 1 then llk .ofs [.string s] SymD.ltab else none
  | .complex a n m => bif Nat.beq k 1 then llk .ofs [.complex a n m] SymD.ltab else none
  | _ => none

/-- a list, of its own from here on -/
noncomputable def lown (k : Nat) (r : Option Value) (m : LMem) (kill : Option Nat) : Option (Value × LMem) :=
  match r with
  | some (.float _ s) => match m.alloc (.lst false k s) with
    | some m' => match kill with
      | none => some (.chan (some m.next), m')
      | some b => match m'.put b 0 .dead with
        | some m'' => some (.chan (some m.next), m'')
        | none => none
    | none => none
  | _ => none

def roomOK (sp : Option Nat) (size need len : Nat) : Bool :=
  match sp with
  | none => Nat.ble need len
  | some es => Nat.beq es size

/-- append, to or of lists that are not known -/
noncomputable def lappendL [SymD] (P : Program) (t : TypeId) (s x : Value) (m : LMem) : Option (Value × LMem) :=
  match P.underlying t with
  | some (.slice e) => match P.info? e with
    | some ie => match ie.zero with
      | some z =>
        bif Nat.ble 1 ie.size && Nat.ble ie.bytes 4096 && Nat.beq z.cells.toList.length ie.size then
          match s with
          | .chan (some b) => match m.get b with
            | some (.lst false k s0) => bif Nat.beq k ie.size then (match llistOf m.get k x with
              | some y => lown k (llk (.cat k) [.float .f64 s0, y] SymD.ltab) m (some b)
              | none => match lelems m.get k x with
                | some (j, vs) => bif Nat.ble 1 j && Nat.ble j 1048576 && vs.all isLxP then lown k (llk (.app k) (.float .f64 s0 :: vs) SymD.ltab) m (some b) else none
                | none => none) else none
            | _ => none
          | .slice none 0 0 => match llistOf m.get ie.size x with
            | some y => lown ie.size (llk (.cat ie.size) [.slice none 0 0, y] SymD.ltab) m none
            | none => none
          | .slice (some ⟨b, off, sp⟩) len cap =>
            bif isZ sp || isZ2 sp cap then none else match m.get b with
            | some (.cells c) => bif !roomOK sp ie.size (off + cap * ie.size) c.length then none else match lrow c off (len * ie.size), llistOf m.get ie.size x with
              | some old, some y => bif old.all isLxP && Nat.ble len 1048576 && Nat.ble cap 1048576 then (match llk (.lit ie.size) old SymD.ltab with
                | some (.float a e0) => lown ie.size (llk (.cat ie.size) [.float a e0, y] SymD.ltab) m (some b)
                | _ => none) else none
              | _, _ => none
            | _ => none
          | _ => none
        else none
      | none => none
    | none => none
  | _ => none

/-- a store into a row of a list that is owned -/
noncomputable def lstoreL [SymD] (m : LMem) (b : Nat) (off : Nat) (sp : Option Nat) (vs : List Value) : Option LMem :=
  match m.get b with
  | some (.lst false k s) => bif vs.all isLxP && Nat.ble 1 vs.length then
      (match (match sp with
        | none => llk (.set k (off % k)) (.float .f64 s :: .int .i64 (.ofNat (off / k)) :: vs) SymD.ltab
        | some i => llk (.set k off) (.float .f64 s :: .complex .f64 i 0 :: vs) SymD.ltab) with
      | some (.float _ s') => m.put b 0 (.lst false k s')
      | _ => none)
    else none
  | _ => none

noncomputable def lappend (P : Program) (t : TypeId) (s x : Value) (m : LMem) : Option (Value × LMem) :=
  match P.underlying t with
  | some (.slice e) => match P.info? e with
    | some ie => match lelems m.get ie.size x, ie.zero with
      | some (k, vs), some z =>
        bif Nat.ble 1 ie.size && Nat.ble k 1048576 && Nat.ble ie.bytes 4096 && Nat.beq z.cells.toList.length ie.size && vs.all Value.oneCell' then
          match s with
          | .slice none 0 0 =>
            bif Nat.beq k 0 then some (.slice none 0 0, m)
            else match m.alloc (.cells vs) with
              | some m' => some (.slice (some ⟨m.next, 0, some ie.size⟩) k k, m')
              | none => none
          | .slice (some ⟨b, off, sp⟩) len cap =>
            bif isZ sp then none else bif Nat.ble (len + k) cap then
              match lstore m b (off + len * ie.size) vs with
              | some m' => some (.slice (some ⟨b, off, sp⟩) (len + k) cap, m')
              | none => none
            else bif Nat.ble (len + k) 1048576 && Nat.ble cap 1048576 then match m.get b with
              | some (.cells c) => match lrow c off (len * ie.size) with
                | some old => match m.alloc (.cells (old ++ vs)) with
                  | some m' => match sp with
                    | none => some (.slice (some ⟨m.next, 0, some ie.size⟩) (len + k) (len + k), m')
                    | some es => bif Nat.beq es ie.size then (match m'.put b 0 .dead with
                      | some m'' => some (.slice (some ⟨m.next, 0, some ie.size⟩) (len + k) (len + k), m'')
                      | none => none) else none
                  | none => none
                | none => none
              | some (.ro c) => match sp with
                | none => match lrow c off (len * ie.size) with
                  | some old => match m.alloc (.cells (old ++ vs)) with
                    | some m' => some (.slice (some ⟨m.next, 0, some ie.size⟩) (len + k) (len + k), m')
                    | none => none
                  | none => none
                | some _ => none
              | _ => none
            else none
          | _ => none
        else none
      | _, _ => none
    | none => none
  | _ => none

noncomputable def lmapUpdate [SymD] (P : Program) (t : TypeId) (x k v : Value) (m : LMem) : Option LMem :=
  match P.underlying t, x with
  | some (.map kt _), .map (some r) =>
    match m.get r, P.underlying kt with
    | some (.map es _), some kd =>
      bif isKeyD kd && isKey (kix 9 k) then
        match lfind kd (kix 9 k) es 0 with
        | some (some (i, _)) => m.put r (lmax (ub (kix 9 k)) (ub v)) (.map (es.take i ++ { key := kix 9 k, val := v, born := 0 } :: es.drop (i + 1)) 0)
        | some none => m.put r (lmax (ub (kix 9 k)) (ub v)) (.map (es ++ [{ key := kix 9 k, val := v, born := 0 }]) 0)
        | none => none
      else none
    | some (.mp n s), some kd =>
      bif isIntD kd && isScP k then
        match v with
        | .agg cs => bif cs.toList.all isScP then (match llk (.mset n) (.float .f64 s :: k :: cs.toList) SymD.ltab with
          | some (.float _ s') => m.put r 0 (.mp n s')
          | _ => none) else none
        | _ => none
      else none
    | _, _ => none
  | _, _ => none

noncomputable def ldelete [SymD] (P : Program) (t : TypeId) (x k : Value) (m : LMem) : Option LMem :=
  match P.underlying t, x with
  | some (.map kt _), .map (some r) =>
    match m.get r, P.underlying kt with
    | some (.map es _), some kd =>
      bif isKeyD kd && isKey (kix 9 k) then
        match lfind kd (kix 9 k) es 0 with
        | some (some (i, _)) => m.put r 0 (.map (es.take i ++ es.drop (i + 1)) 0)
        | some none => m.put r 0 (.map es 0)
        | none => none
      else none
    | some (.mp n s), some kd =>
      bif isIntD kd && isScP k then
        match llk .mdel [.float .f64 s, k] SymD.ltab with
        | some (.float _ s') => m.put r 0 (.mp n s')
        | _ => none
      else none
    | _, _ => none
  | _, _ => none

noncomputable def lclear (P : Program) (t : TypeId) (x : Value) (m : LMem) : Option LMem :=
  match P.underlying t, x with
  | some (.slice e), .slice (some ⟨b, off, _⟩) n _ =>
    match P.info? e with
    | some ie => match ie.zero with
      | some z => bif Nat.beq (ub z) 0 && Nat.beq z.cells.toList.length ie.size && Nat.ble 1 ie.size && Nat.ble 1 n then lstore m b off (lzeros z.cells.toList n) else bif Nat.beq n 0 then some m else none
      | none => none
    | none => none
  | some (.slice _), .slice none _ _ => some m
  | _, _ => none

/-- the numbers of the functions without a body that are known: math/bits.Add64, Sub64, maps.clone -/
structure ExtT where
  add : Nat
  sub : Nat
  clone : Nat

def ladd (args : List Value) : Option Value :=
  match args with
  | [.int _ x, .int _ y, .int _ c] => bif Nat.ble c.toNat 1 then
      some (Extern.MathBitsCarry.pair ((x.toNat + y.toNat + c.toNat) % Extern.MathBitsCarry.m64) ((x.toNat + y.toNat + c.toNat) / Extern.MathBitsCarry.m64)) else none
  | _ => none

def lsub (args : List Value) : Option Value :=
  match args with
  | [.int _ x, .int _ y, .int _ c] => bif Nat.ble c.toNat 1 then
      some (Extern.MathBitsCarry.pair ((x.toNat + Extern.MathBitsCarry.m64 - y.toNat - c.toNat) % Extern.MathBitsCarry.m64) (if x.toNat < y.toNat + c.toNat then 1 else 0)) else none
  | _ => none

/-- Add64, Sub64 of numbers that are not known -/
def laddS [SymD] (args : List Value) : Option Value :=
  match ladd args with
  | some v => some v
  | none => match args with
    | [x, y, c] => match slk (.ad false) [x, y, c] SymD.tab with
      | some a => (match slk (.ad true) [x, y, c] SymD.tab with
        | some b => some (.tuple ⟨[a, b]⟩)
        | none => none)
      | none => none
    | _ => none
def lsubS [SymD] (args : List Value) : Option Value :=
  match lsub args with
  | some v => some v
  | none => match args with
    | [x, y, c] => match slk (.sb false) [x, y, c] SymD.tab with
      | some a => (match slk (.sb true) [x, y, c] SymD.tab with
        | some b => some (.tuple ⟨[a, b]⟩)
        | none => none)
      | none => none
    | _ => none

/-- a map, once more -/
noncomputable def lclone (args : List Value) (m : LMem) : Option (LN × LMem) :=
  match args with
  | [.iface t (.map (some r))] => match m.get r with
    | some (.map es ck) => (m.alloc (.map es ck)).map fun m' => (.val (.iface t (.map (some m.next))), m')
    | some (.mp k s) => (m.alloc (.mp k s)).map fun m' => (.val (.iface t (.map (some m.next))), m')
    | _ => none
  | _ => none

noncomputable def lcallF [SymD] (P : Program) (X : ExtT) (f : FuncId) (args : List Value) (m : LMem) : Option (LN × LMem) :=
  bif Nat.beq f X.add then (laddS args).map fun v => (.val v, m)
  else bif Nat.beq f X.sub then (lsubS args).map fun v => (.val v, m)
  else bif Nat.beq f X.clone then (match P.funcs[f]? with | some _ => lclone args m | none => none)
  else match P.funcs[f]? with
    | some fn => match fn.body with
      | some _ => some (.enter f args, m)
      | none => none
    | none => none

def isPtrD : TypeDesc → Bool
  | .pointer _ => true
  | _ => false

/-- a method called through an interface value: the type's own method, its receiver as it stands -/
noncomputable def linvoke [SymD] (P : Program) (X : ExtT) (recv : Value) (name : String) (args : List Value) (m : LMem) : Option (LN × LMem) :=
  match recv with
  | .iface t v => match P.info? t, P.underlying t with
    | some i, some d => match i.methods.toList.find? (fun x => x.name == name) with
      | some me => match me.path.toList, me.func with
        | [], some (f, p) => bif isPtrD d == p then lcallF P X f (v :: args) m else none
        | _, _ => none
      | none => none
    | _, _ => none
  | _ => none

/-- a slice of bytes made one of its own type: its block is marked as read from a string -/
noncomputable def lmark [SymD] (P : Program) (src dst : TypeId) (x : Value) (m : LMem) : Option (Value × LMem) :=
  match x with
  | .slice (some a) len cap => match P.underlying src, P.underlying dst with
    | some (.slice _), some (.slice e) => match P.underlying e, lcells m.get a.block with
      | some (.int .u8), some c => bif Nat.beq src dst then (m.put a.block 0 (.ro c)).map fun m' => (.slice (some a) len cap, m') else none
      | _, _ => none
    | _, _ => (lconv P m.get src dst x).map fun v => (v, m)
  | x => (lconv P m.get src dst x).map fun v => (v, m)

/-- effects: stores, appends, calls -/
noncomputable def eop [SymD] (P : Program) (X : ExtT) (ρ : Operand → Value) (o : Oper) (m : LMem) : Option (LN × LMem) :=
  match o.op with
  | .store t a x => match ρ a, P.info? t with
    | .pointer (some ⟨b, off, sp⟩), some i =>
      let vs := (ρ x).cells.toList
      bif Nat.beq vs.length i.size then (match (match sp with
        | none => lstore m b off vs
        | some _ => none) with
      | some m' => some (.val undef, m')
      | none => (lstoreL m b off sp vs).map fun m' => (.val undef, m')) else none
    | _, _ => none
  | .mapUpdate t x k v => (lmapUpdate P t (ρ x) (ρ k) (ρ v) m).map fun m' => (.val undef, m')
  | .insert t x k v => (lmapUpdate P t (ρ x) (ρ k) (ρ v) m).map fun m' => (.val undef, m')
  | .call { callee := .builtin .append, args, argTypes } => match args.toList, argTypes.toList with
    | [s, x], [t, u] => match P.underlying u with
      | some (.slice _) => (match lappend P t (ρ s) (ρ x) m with
        | some r => some (.val r.1, r.2)
        | none => (lappendL P t (ρ s) (ρ x) m).map fun r => (.val r.1, r.2))
      | some .string => (match lappend P t (ρ s) (ρ x) m with
        | some r => some (.val r.1, r.2)
        | none => (lappendL P t (ρ s) (ρ x) m).map fun r => (.val r.1, r.2))
      | _ => none
    | _, _ => none
  | .call { callee := .builtin .clear, args, argTypes } => match args.toList, argTypes.toList with
    | [x], [t] => (lclear P t (ρ x) m).map fun m' => (.val (.tuple #[]), m')
    | _, _ => none
  | .call { callee := .builtin .delete, args, argTypes } => match args.toList, argTypes.toList with
    | [x, k], [t, _] => (ldelete P t (ρ x) (ρ k) m).map fun m' => (.val (.tuple #[]), m')
    | _, _ => none
  | .call { callee := .value f, args, .. } => match ρ f with
    | .func (.func g) first captured => lcallF P X g (first.toList ++ args.toList.map ρ ++ captured.toList) m
    | _ => none
  | .call { callee := .invoke recv name, args, .. } => linvoke P X (ρ recv) name (args.toList.map ρ) m
  | .convert src dst x => (lmark P src dst (ρ x) m).map fun r => (.val r.1, r.2)
  | _ => none

end Go.Eng
/- The engine: the logical run of code. -/
namespace Go.Eng
variable [SymV]

def veqL (eq : Value → Value → Bool) : List Value → List Value → Bool
  | [], [] => true
  | x :: xs, y :: ys => eq x y && veqL eq xs ys
  | _, _ => false

def aeq (a b : Addr) : Bool := Nat.beq a.block b.block && Nat.beq a.off b.off && (match a.spot, b.spot with | none, none => true | some x, some y => Nat.beq x y | _, _ => false)

/-- if it says yes, the two are equal -/
def veq : Nat → Value → Value → Bool
  | 0, _, _ => false
  | n + 1, x, y => match x, y with
    | .bool a, .bool b => a == b
    | .int j a, .int k b => decide (j = k) && decide (a = b)
    | .string a, .string b => a.data.toList == b.data.toList
    | .pointer none, .pointer none => true
    | .pointer (some a), .pointer (some b) => aeq a b
    | .slice none l c, .slice none l' c' => Nat.beq l l' && Nat.beq c c'
    | .slice (some a) l c, .slice (some b) l' c' => aeq a b && Nat.beq l l' && Nat.beq c c'
    | .map none, .map none => true
    | .map (some a), .map (some b) => Nat.beq a b
    | .chan none, .chan none => true
    | .chan (some a), .chan (some b) => Nat.beq a b
    | .float a n, .float b m => decide (a = b) && Nat.beq n m
    | .complex a n m, .complex b n' m' => decide (a = b) && Nat.beq n n' && Nat.beq m m'
    | .nilFunc, .nilFunc => true
    | .nilIface, .nilIface => true
    | .iface t a, .iface u b => Nat.beq t u && veq n a b
    | .agg a, .agg b => veqL (veq n) a.toList b.toList
    | .tuple a, .tuple b => veqL (veq n) a.toList b.toList
    | .func (.func f) a b, .func (.func g) c d => Nat.beq f g && veqL (veq n) a.toList c.toList && veqL (veq n) b.toList d.toList
    | _, _ => false

def isEff : Op → Bool
  | .store .. | .mapUpdate .. | .insert .. => true
  | .convert src dst _ => Nat.beq src dst
  | .call { callee := .builtin b, .. } => match b with
    | .len | .max | .min => false
    | _ => true
  | .call _ => true
  | _ => false

def isAlc : Op → Bool
  | .alloc _ | .box .. | .buildSlice .. | .makeSlice .. | .makeMap .. => true
  | _ => false

/-- does it make the bytes of a string? -/
def isConvB (P : Program) : Op → Bool
  | .convert src dst _ => match P.underlying src, P.underlying dst with
    | some .string, some (.slice _) => true
    | _, _ => false
  | _ => false

def isAlcP (P : Program) (o : Op) : Bool := isAlc o || isConvB P o

/-- does it look at the memory? -/
def looks : Op → Bool
  | .load .. | .lookup .. | .convert .. | .call _ => true
  | _ => false

/-- an index into a list that is owned -/
def looksR (ρ : Operand → Value) : Op → Bool
  | .indexAddr _ x _ => match ρ x with
    | .chan _ => true
    | _ => false
  | _ => false

def bnd (e : Edge) : Bool :=
  match e.ground with
  | .textOnly _ => false
  | .gcOnly _ => false
  | _ => true

def tb (m i : Nat) : Bool := Nat.beq (m / 2 ^ i % 2) 1

def maskOf (ms : List Nat) : List Edge → Nat → Nat
  | [], s => s
  | e :: r, s => maskOf ms r (bif bnd e then Nat.lor s (Nat.lor (2 ^ e.on) (ms.getD e.on 0)) else s)

/-- what comes ahead of each operation, as bits -/
def masks : List Oper → List Nat → List Nat
  | [], acc => acc
  | o :: r, acc => masks r (acc ++ [maskOf acc o.after.toList 0])

def bitsIn (n a b : Nat) : List Nat := (List.range n).filter fun i => tb a i && !tb b i

def ordGo (n : Nat) (ms : List Nat) : List Nat → Nat → List Nat
  | [], acc => (List.range n).filter fun i => !tb acc i
  | e :: r, acc =>
    let want := Nat.lor (ms.getD e 0) (2 ^ e)
    bitsIn n want acc ++ ordGo n ms r (Nat.lor acc want)

/-- an order of the region's operations in which all that is ahead of an effect must be ahead of it -/
def regOrd (ops : List Oper) (ms : List Nat) : List Nat :=
  ordGo ops.length ms ((List.range ops.length).filter fun i => ((ops[i]?).map fun o => isEff o.op).getD false) 0

def okOperand : Operand → Bool
  | .global _ => false
  | .const v => Nat.beq (ub v) 0
  | _ => true

def okOp (o : Oper) : Bool := o.op.operands.toList.all okOperand

/-- the temporaries that an operation looks at -/
def tmpsOf (ops : List Oper) (o : Oper) : List Nat :=
  (o.op.operands.toList.filterMap fun | .tmp t => some t | _ => none) ++
  (match o.guard with
   | some (g, _) => ((ops[g]?).bind (·.dst)).toList
   | none => [])

def namesOf (ops : List Oper) (o : Oper) : List Nat := o.dst.toList ++ tmpsOf ops o

def ordOK (ops : List Oper) (ms : List Nat) : List Nat → Nat → Bool
  | [], _ => true
  | i :: r, acc =>
    let mi := ms.getD i 0
    Nat.blt i ops.length && !tb acc i && Nat.beq (Nat.land mi acc) mi &&
    (!((ops[i]?).map fun o => isEff o.op).getD false || Nat.beq (Nat.land acc mi) acc) && ordOK ops ms r (Nat.lor acc (2 ^ i))

def tmpsOK (ops : List Oper) (ms : List Nat) : Bool :=
  (List.range ops.length).all fun j => match ops[j]? with
    | none => true
    | some oj =>
      let ns := namesOf ops oj
      (List.range ops.length).all fun i => Nat.beq i j || (match ops[i]? with
        | none => true
        | some oi => match oi.dst with
          | none => true
          | some d => !ns.contains d || tb (ms.getD j 0) i || tb (ms.getD i 0) j)

def regOK (ops : List Oper) : Bool :=
  let ms := masks ops []
  let ord := regOrd ops ms
  ops.all okOp && Nat.beq ord.length ops.length && ordOK ops ms ord 0 && (List.range ops.length).all (fun i => ord.contains i) && tmpsOK ops ms

noncomputable def LF.put (f : LF) (dst : Option Nat) (v : Value) : Option LF :=
  match dst with
  | none => some f
  | some d => match f with
    | ⟨tr, nt⟩ => bif Nat.blt d nt then some ⟨FT.set tr d v, nt⟩ else none

noncomputable def lwanted [SymD] (ops : List Oper) (o : Oper) (f : LF) : Option Bool :=
  match o.guard with
  | none => some true
  | some (j, want) => match ops[j]? with
    | none => some false
    | some oj => match oj.dst with
      | none => some false
      | some d => match f.get d with
        | .bool b => some (b == want)
        | .complex k n m => (tlk (.complex k n m) SymD.tab).map (· == want)
        | .float _ _ => none
        | _ => some false

abbrev CallT := FuncId → List Value → LMem → Option (Value × LMem)

noncomputable def doEff [SymD] (P : Program) (X : ExtT) (call : CallT) (f : LF) (o : Oper) (m : LMem) : Option (Value × LMem) :=
  match eop P X f.lev o m with
  | some (.val v, m') => some (v, m')
  | some (.enter g args, m') => call g args m'
  | none => none

noncomputable def doAlc [SymD] (P : Program) (f : LF) (o : Oper) (m : LMem) : Option (Value × LMem) :=
  match aop P f.lev o m.next with
  | some (v, b) => (m.alloc b).map fun m' => (v, m')
  | none => none

noncomputable def doOp [SymD] (P : Program) (X : ExtT) (call : CallT) (f : LF) (o : Oper) (m : LMem) : Option (Value × LMem) :=
  bif isEff o.op then doEff P X call f o m
  else bif isAlcP P o.op then doAlc P f o m
  else (qop P m.get f.lev o).map fun v => (v, m)

/-- a region in the order of its text -/
noncomputable def runSeq [SymD] (P : Program) (X : ExtT) (call : CallT) (ops : List Oper) : List Oper → LF → LMem → Option (LF × LMem)
  | [], f, m => some (f, m)
  | o :: r, f, m =>
    match lwanted ops o f with
    | none => none
    | some wt => bif wt then
      match doOp P X call f o m with
      | some (v, m') => match f.put o.dst v with
        | some f' => runSeq P X call ops r f' m'
        | none => none
      | none => none
      else match f.put o.dst undef with
      | some f' => runSeq P X call ops r f' m
      | none => none

/-- a block that was made, seen in the memories ahead of effects -/
noncomputable def ovl (n : Nat) (m' : LMem) : List (Nat × (Nat → Option LB)) → List (Nat × (Nat → Option LB))
  | [] => []
  | (e, g) :: r => (e, fun id => bif Nat.beq id n then m'.get n else g id) :: ovl n m' r

/-- the value is the same in the memories in which it may be asked for; hist: an effect and the memory ahead of it, the latest first -/
noncomputable def stable [SymD] (P : Program) (f : LF) (o : Oper) (v : Value) (mj : Nat) : List (Nat × (Nat → Option LB)) → Bool
  | [] => true
  | (e, m) :: r =>
    tb mj e || ((match qop P m f.lev o with
      | some u => veq 7 u v
      | none => false) && stable P f o v mj r)

/-- a region that draws its order, in the order 'ord' -/
noncomputable def runDraw [SymD] (P : Program) (X : ExtT) (call : CallT) (ops : List Oper) (ms : List Nat) : List Nat → LF → LMem → LMem → List (Nat × (Nat → Option LB)) → Option (LF × LMem)
  | [], f, m, _, _ => some (f, m)
  | i :: r, f, m, cur, hist =>
    match ops[i]? with
    | none => none
    | some o => match lwanted ops o f with
      | none => none
      | some wt => bif wt then
        bif isEff o.op then
          bif (tmpsOf ops o).all fun t => Nat.ble (ub (f.get t)) m.next then
            match doEff P X call f o m with
            | some (v, m') => match f.put o.dst v with
              | some f' => runDraw P X call ops ms r f' m' m' ((i, m.get) :: hist)
              | none => none
            | none => none
          else none
        else bif isAlcP P o.op then
          match doAlc P f o m with
          | some (v, m') => match f.put o.dst v with
            | some f' => runDraw P X call ops ms r f' m' cur (ovl m.next m' hist)
            | none => none
          | none => none
        else match qop P m.get f.lev o with
          | some v => bif !(looks o.op || looksR f.lev o.op) || stable P f o v (ms.getD i 0) hist then
              match f.put o.dst v with
              | some f' => runDraw P X call ops ms r f' m cur hist
              | none => none
            else none
          | none => none
        else match f.put o.dst undef with
        | some f' => runDraw P X call ops ms r f' m cur hist
        | none => none

inductive LX where
  | norm
  | exit (id : Nat)
  | ret

noncomputable def exec [SymD] (P : Program) (X : ExtT) (call : CallT) : Nat → Code → LF → LMem → Option (LX × LF × LMem)
  | 0, _, _, _ => none
  | n + 1, c, f, m =>
    match c with
    | .skip => some (.norm, f, m)
    | .region _ ops draw =>
      let l := ops.toList
      bif draw then
        bif regOK l then
          let ms := masks l []
          (runDraw P X call l ms (regOrd l ms) f m m []).map fun r => (.norm, r.1, r.2)
        else none
      else bif l.all okOp then (runSeq P X call l l f m).map fun r => (.norm, r.1, r.2) else none
    | .seq a b => match exec P X call n a f m with
      | some (.norm, f', m') => exec P X call n b f' m'
      | r => r
    | .cond x a b => match x with
      | .global _ => none
      | x => match f.lev x with
        | .bool true => exec P X call n a f m
        | .bool false => exec P X call n b f m
        | .complex k i j => match (bif okOperand x then tlk (.complex k i j) SymD.tab else none) with
          | some true => exec P X call n a f m
          | some false => exec P X call n b f m
          | none => none
        | _ => none
    | .block id a => match exec P X call n a f m with
      | some (.exit j, f', m') => bif Nat.beq j id then some (.norm, f', m') else some (.exit j, f', m')
      | r => r
    | .loop a => match exec P X call n a f m with
      | some (.norm, f', m') => exec P X call n (.loop a) f' m'
      | r => r
    | .exit id => some (.exit id, f, m)
    | .scope a => exec P X call n a f m
    | .label _ => some (.norm, f, m)
    | .ret => some (.ret, f, m)
    | _ => none

noncomputable def lresults (P : Program) (f : LF) (m : LMem) : List ResultVar → Option (List Value)
  | [] => some []
  | .tmp t :: r => (lresults P f m r).map (f.get t :: ·)
  | .cell a t :: r => match f.get a with
    | .pointer (some ⟨b, off, none⟩) => match lcells m.get b with
      | some c => match lload P t c off with
        | some v => (lresults P f m r).map (v :: ·)
        | none => none
      | none => none
    | _ => none

def ltuple : List Value → Value
  | [v] => v
  | vs => .tuple ⟨vs⟩

noncomputable def putArgs : List Value → Nat → FT Value → FT Value
  | [], _, t => t
  | v :: r, i, t => putArgs r (i + 1) (FT.set t i v)

/-- a function's own code, run -/
noncomputable def callB [SymD] (P : Program) (X : ExtT) (fuel : Nat) (ih : CallT) (g : FuncId) (args : List Value) (m : LMem) : Option (Value × LMem) :=
  match P.funcs[g]? with
  | none => none
  | some fn => match fn.body with
    | none => none
    | some c =>
      bif Nat.ble args.length fn.ntmps && Nat.ble fn.ntmps 512 then
        match exec P X ih fuel c { tr := putArgs args 0 (FT.lf none), nt := fn.ntmps } m with
        | some (.norm, f', m') => (lresults P f' m' fn.results.toList).map fun vs => (ltuple vs, m')
        | some (.ret, f', m') => (lresults P f' m' fn.results.toList).map fun vs => (ltuple vs, m')
        | _ => none
      else none

/-- a primitive that has no answer leaves the call to the function's own code -/
noncomputable def callF [SymD] (P : Program) (X : ExtT) (prim : FuncId → Option (List Value → LMem → Option (Value × LMem))) (fuel : Nat) : Nat → CallT
  | 0, _, _, _ => none
  | n + 1, g, args, m =>
    match prim g with
    | some p => match p args m with
      | some r => some r
      | none => callB P X fuel (callF P X prim fuel n) g args m
    | none => callB P X fuel (callF P X prim fuel n) g args m

end Go.Eng
/- The engine's quiet operations are those of the model. -/
namespace Go.Eng
variable [SymV]
section
variable {P : Program}

def MRp (φ : Phi) (G : Nat → Option LB) (w : World) : Prop :=
  ∀ id b, G id = some b → (∀ l, φ id = some (some l) → BR φ b l w) ∧ (φ id = some none → φ.nl id = false → b = .dead) ∧ (φ id = some none → φ.nl id = true → ∃ ro k s, b = .lst ro k s ∧ SymV.lst s = .slice none 0 0)

theorem MR.part {φ : Phi} {G : Nat → Option LB} {w : World} (h : MR φ G w) : MRp φ G w := by
  have _s := SymV.val
  have _s := SymV.val
  intro id b hb
  refine ⟨fun l hl => ?_, fun hd hn => ?_, fun hd hn => ?_⟩
  · obtain ⟨b', h1, h2⟩ := h.live id l hl
    rw [hb] at h1; cases h1; exact h2
  · have := h.dead id hd hn
    rw [hb] at this; cases this; rfl
  · obtain ⟨ro, k, s, q1, q2⟩ := h.nils id hd hn
    rw [hb] at q1; cases q1; exact ⟨ro, k, s, rfl, q2⟩

/-- a list's block that is dead is nil -/
theorem MRp.lst {φ : Phi} {G : Nat → Option LB} {w : World} (h : MRp φ G w) {id : Nat} {ro : Bool} {k s : Nat} (hb : G id = some (.lst ro k s)) (hd : φ id = some none) : φ.nl id = true ∧ SymV.lst s = .slice none 0 0 := by
  obtain ⟨_, h2, h3⟩ := h id _ hb
  cases hn : φ.nl id with
  | false => have := h2 hd hn; cases this
  | true => obtain ⟨_, _, _, q1, q2⟩ := h3 hd hn; cases q1; exact ⟨rfl, q2⟩

/-- other blocks that are dead are told so -/
theorem MRp.dead {φ : Phi} {G : Nat → Option LB} {w : World} (h : MRp φ G w) {id : Nat} {b : LB} (hb : G id = some b) (hd : φ id = some none) (hl : ∀ ro k s, b ≠ .lst ro k s) : b = .dead := by
  obtain ⟨_, h2, h3⟩ := h id _ hb
  cases hn : φ.nl id with
  | false => exact h2 hd hn
  | true => obtain ⟨_, _, _, q1, _⟩ := h3 hd hn; exact absurd q1 (hl _ _ _)

/-- rows that stay as they are -/
def Rows (fz : Nat → Option Obj) (v : Value) (rs : List (List Value)) : Prop :=
  ∃ (b o k cap : Nat) (c : Array Value) (e : TypeId) (m : Nat × Nat) (us : Nat → Nat → Value), v = .slice (some ⟨b, o, none⟩) rs.length cap ∧ fz b = some (.cells c e m) ∧ rs.length ≤ cap ∧ 1 ≤ k ∧ o + cap * k ≤ c.size ∧
    (∀ (i : Nat) (r : List Value), rs[i]? = some r → r.length = k) ∧
    (∀ (i : Nat) (r : List Value) (j : Nat) (d : Value), rs[i]? = some r → r[j]? = some d → c[o + i * k + j]? = some (us i j) ∧ DenF fz (us i j) d)

theorem DenF.rows {fz : Nat → Option Obj} {v d : Value} {rs : List (List Value)} (h : DenF fz v d) (hr : lrows d = some rs) : (v = .slice none 0 0 ∧ d = .slice none 0 0 ∧ rs = []) ∨ (d = lv rs ∧ Rows fz v rs) := by
  have _s := SymV.val
  have _s := SymV.val
  cases h with
  | sc v h1 =>
    unfold lrows at hr
    split at hr
    · cases hr; exact .inl ⟨rfl, rfl, rfl⟩
    · cases h1
    · cases hr
  | list b o n k cap c e m rs' us h1 h2 h3 h4 h5 h6 h7 h8 =>
    rw [lrows_lv] at hr
    cases hr
    subst h2
    exact .inr ⟨rfl, b, o, k, cap, c, e, m, us, rfl, h1, h3, h4, h5, h6, fun i r j d hr hd => ⟨h7 i r j d hr hd, h8 i r j d hr hd⟩⟩
  | place => cases hr

theorem Rows.den {fz : Nat → Option Obj} {v : Value} {rs : List (List Value)} (h : Rows fz v rs) : DenF fz v (lv rs) := by
  have _s := SymV.val
  obtain ⟨b, o, k, cap, c, e, m, us, rfl, h1, h2, h3, h4, h5, h6⟩ := h
  exact .list b o _ k cap c e m rs us h1 rfl h2 h3 h4 h5 (fun i r j d hr hd => (h6 i r j d hr hd).1) fun i r j d hr hd => (h6 i r j d hr hd).2

theorem lv_notnil (rs : List (List Value)) : isNilL (lv rs) = false := by
  have _s := SymV.val
  exact rfl

/-- what a list symbol stands for -/
theorem VR.lsymD {φ : Phi} {a : FloatKind} {n : Nat} {v : Value} (h : VR φ (.float a n) v) : DenF φ.fz v (SymV.lst n) := by
  cases h with
  | lsym _ _ _ hd => exact hd

theorem VR.ofX {φ : Phi} {x y : Value} (hs : isScP x = true) (h : VR φ x y) : y = denX SymV.val SymV.lst x := by
  rw [denX_sc hs]; exact h.denP hs

theorem run_typeInfo' {t : TypeId} {i : TypeInfo} (h : P.info? t = some i) (w : World) : (typeInfo t).run P w = .ok i w := by
  have _s := SymV.val
  simp [typeInfo, h]
theorem run_sizeOf' {t : TypeId} {i : TypeInfo} (h : P.info? t = some i) (w : World) : (sizeOf t).run P w = .ok i.size w := by
  have _s := SymV.val
  simp [sizeOf, typeInfo, h]
theorem run_zeroValue' {t : TypeId} {i : TypeInfo} {z : Value} (h : P.info? t = some i) (hz : i.zero = some z) (w : World) : (zeroValue t).run P w = .ok z w := by
  have _s := SymV.val
  simp [zeroValue, typeInfo, h, hz]
theorem run_isAgg' {t : TypeId} {d : TypeDesc} (h : P.underlying t = some d) (w : World) : (isAgg t).run P w = .ok (isAggD d) w := by
  have _s := SymV.val
  unfold isAgg
  rw [Sem.run_bind, run_underlying h w]
  cases d <;> rfl

theorem extract_list (c : Array Value) (a n : Nat) : (c.extract a (a + n)).toList = (c.toList.drop a).take n := by
  have _s := SymV.val
  simp [List.extract_eq_take_drop]

theorem part_sim {φ : Phi} {t : TypeId} {c : List Value} {c' : Array Value} {off : Nat} {v : Value} (hc : VRL φ c c'.toList) (h : lpart P t c off = some v) (w : World) :
    ∃ v', (part t c' off).run P w = .ok v' w ∧ VR φ v v' := by
  unfold lpart at h
  split at h
  · rename_i d i hd hi
    unfold part
    rw [Sem.run_bind, run_isAgg' hd]
    cases ha : isAggD d with
    | true =>
      rw [ha] at h
      simp only [cond_true, Option.some.injEq] at h
      subst h
      refine ⟨.agg (c'.extract off (off + i.size)), by simp [run_sizeOf' hi], .agg _ _ ?_⟩
      rw [extract_list]
      exact (hc.drop off).take i.size
    | false =>
      rw [ha] at h
      simp only [cond_false] at h
      obtain ⟨v', h1, h2⟩ := hc.get h
      refine ⟨v', ?_, h2⟩
      have : c'[off]? = some v' := by simpa using h1
      simp [this]
  · cases h

theorem addr_add (b off n : Nat) : (⟨b, off, none⟩ : Addr).add n = ⟨b, off + n, none⟩ := by
  have _s := SymV.val
  unfold Addr.add; split
  · rename_i h; subst h; rfl
  · rfl

/-- n cells read out of a block -/
theorem row_sim {φ : Phi} {c vs : List Value} {l : Loc} {w : World} {off n : Nat} (hb : BRr φ c l w) (h : lrow c off n = some vs) :
    ∃ vs', (∀ W : World, W.heap = w.heap → (loadCells ⟨l.b, l.sh + off, none⟩ n).run P W = .ok vs' W) ∧ VRL φ vs vs'.toList ∧ vs.length = n := by
  obtain ⟨c', e, fz, h1, h2, h3, h4⟩ := hb
  unfold lrow at h
  cases hl : Nat.beq ((c.drop off).take n).length n with
  | false => simp only [hl, cond_false] at h; cases h
  | true =>
    simp only [hl, cond_true, Option.some.injEq] at h
    have hlen : ((c.drop off).take n).length = n := Nat.eq_of_beq_eq_true hl
    subst h
    have hoff : n = 0 ∨ off + n ≤ c.length := by
      simp at hlen; omega
    have hl' : ((c'.toList.drop (l.sh + off)).take n).length = n := by
      have : c'.toList.length = l.sz := by simpa using h2
      simp; omega
    have hrun := fun (W : World) (hW : W.heap = w.heap) => run_loadCells_list (P := P) W ⟨l.b, l.sh + off, none⟩ ((c'.toList.drop (l.sh + off)).take n) (fun j v hv => by
      rw [addr_add, cell_of_row W l.b _ c' e fz (by rw [hW]; exact h1)]
      have hj : j < n := by
        rcases Nat.lt_or_ge j n with h | h
        · exact h
        · rw [List.getElem?_eq_none (by omega)] at hv; cases hv
      rw [List.getElem?_take_of_lt hj, List.getElem?_drop] at hv
      simpa using hv)
    rw [hl'] at hrun
    refine ⟨_, hrun, ?_, hlen⟩
    refine VRL.of_get (by show _ = ((c'.toList.drop (l.sh + off)).take n).length; omega) fun i x hx => ?_
    have hi : i < n := by
      rcases Nat.lt_or_ge i n with h | h
      · exact h
      · rw [List.getElem?_eq_none (by omega)] at hx; cases hx
    rw [List.getElem?_take_of_lt hi, List.getElem?_drop] at hx
    obtain ⟨v', h5, h6⟩ := h4 _ x hx
    refine ⟨v', ?_, h6⟩
    show ((c'.toList.drop (l.sh + off)).take n)[i]? = some v'
    rw [List.getElem?_take_of_lt hi, List.getElem?_drop, Nat.add_assoc]
    simpa using h5

theorem row_any {φ : Phi} {c vs : List Value} {l : Loc} {w : World} {off n o : Nat} (hb : BRr φ c l w) (h : lrow c off n = some vs) (ho : o = l.sh + off ∨ n = 0) :
    ∃ vs', (∀ W : World, W.heap = w.heap → (loadCells ⟨l.b, o, none⟩ n).run P W = .ok vs' W) ∧ VRL φ vs vs'.toList ∧ vs.length = n := by
  rcases ho with rfl | rfl
  · exact row_sim hb h
  · have : vs = [] := by
      unfold lrow at h
      simp at h
      exact h
    subst this
    exact ⟨#[], fun W _ => rfl, .nil, rfl⟩

theorem load_sim {φ : Phi} {c : List Value} {l : Loc} {w : World} {t : TypeId} {off : Nat} {v : Value} (hb : BRr φ c l w) (h : lload P t c off = some v) :
    ∃ v', (loadVar t ⟨l.b, l.sh + off, none⟩).run P w = .ok v' w ∧ VR φ v v' := by
  unfold lload at h
  split at h
  · rename_i d i hd hi
    unfold loadVar
    rw [Sem.run_bind, run_isAgg' hd]
    cases ha : isAggD d with
    | true =>
      simp only [ha, cond_true] at h
      have h' : ∃ vs, lrow c off i.size = some vs ∧ v = .agg ⟨vs⟩ := by
        unfold lrow
        cases hl : Nat.beq ((c.drop off).take i.size).length i.size with
        | false => simp only [hl, cond_false] at h; cases h
        | true =>
          simp only [hl, cond_true, Option.some.injEq] at h
          exact ⟨_, by simp only [hl, cond_true], h.symm⟩
      obtain ⟨vs, h1, rfl⟩ := h'
      obtain ⟨vs', h2, h3, _⟩ := row_sim (P := P) hb h1
      exact ⟨.agg vs', by simp [run_sizeOf' hi, h2 w rfl], .agg _ _ h3⟩
    | false =>
      simp only [ha, cond_false] at h
      obtain ⟨c', e, fz, h1, h2, h3, h4⟩ := hb
      obtain ⟨v', h5, h6⟩ := h4 _ v h
      refine ⟨v', ?_, h6⟩
      have := cell_of_row w l.b (l.sh + off) c' e fz h1
      simp [this, h5]
  · cases h

theorem pureSem_run {α : Type} {s : Sem α} {v : α} (h : pureSem s = some v) (w : World) : s.run P w = .ok v w := by
  have _s := SymV.val
  cases s <;> simp [pureSem] at h
  subst h; rfl

/-- equality -/
theorem eqFields_sim {φ : Phi} {d : Nat} {eq : TypeId → Value → Value → Option Bool} {xs ys : List Value} {xs' ys' : Array Value} (w : World)
    (heq : ∀ t x y x' y' b, eq t x y = some b → VR φ x x' → VR φ y y' → (Op.equalIn d t x' y').run P w = .ok b w)
    (hx : VRL φ xs xs'.toList) (hy : VRL φ ys ys'.toList) : ∀ (fs : List Field) (b : Bool), leqF eq P xs ys fs = some b → (Op.eqFields d xs' ys' fs).run P w = .ok b w := by
  intro fs
  induction fs with
  | nil => intro b h; simp [leqF] at h; subst h; simp [Op.eqFields]
  | cons f fs ih =>
    intro b h
    unfold leqF at h
    by_cases hn : f.name ≠ "_"
    · rw [if_pos hn] at h
      split at h
      · rename_i a c ha hc
        obtain ⟨a', h1, h2⟩ := part_sim hx ha w
        obtain ⟨c', h3, h4⟩ := part_sim hy hc w
        simp only [Op.eqFields, if_pos hn, Sem.run_bind, h1, Result.andThen_ok, h3]
        split at h
        · rename_i he
          rw [heq _ _ _ _ _ _ he h2 h4]
          simp only [Result.andThen_ok, Bool.not_true, Bool.false_eq_true, if_false]
          exact ih b h
        · rename_i he
          simp at h; subst h
          rw [heq _ _ _ _ _ _ he h2 h4]
          simp
        · cases h
      · cases h
    · rw [if_neg hn] at h
      simp only [Op.eqFields, if_neg hn]
      exact ih b h

theorem symQ_spec {φ : Phi} {q : SOp} {x y x' y' : Value} {b : Bool} (h : symQ q x y = some b) (hx : VR φ x x') (hy : VR φ y y') : sev q [x', y'] = some (.bool b) := by
  unfold symQ at h
  cases hs : (isSym x || isSym y) with
  | false => rw [hs] at h; cases h
  | true =>
    rw [hs] at h
    simp only [cond_true] at h
    split at h
    · rename_i b' hl
      cases h
      obtain ⟨h1, _, h3⟩ := slk_spec SymV.ok hl
      simp only [List.all_cons, List.all_nil, Bool.and_true, Bool.and_eq_true] at h1
      rw [hx.denP h1.1, hy.denP h1.2]
      exact h3
    · cases h

theorem symEq_sim {φ : Phi} {x y x' y' : Value} {b : Bool} {t : TypeId} {kk : IntKind} (w : World) (n : Nat) (hu : P.underlying t = some (.int kk)) (h : symQ .eqi x y = some b) (hx : VR φ x x') (hy : VR φ y y') :
    (Op.equalIn (n + 1) t x' y').run P w = .ok b w := by
  have h := symQ_spec h hx hy
  simp only [sev] at h
  split at h
  · rename_i k a k' a' he
    simp only [List.cons.injEq, and_true] at he
    obtain ⟨rfl, rfl⟩ := he
    by_cases hk : k = k'
    · subst hk
      simp only [decide_true, cond_true, Option.some.injEq, Value.bool.injEq] at h
      subst h
      simp [Op.equalIn, run_underlying hu]
    · simp [hk] at h
  · cases h

theorem eqItems_sim {φ : Phi} {d c : Nat} {e : TypeId} {eq : TypeId → Value → Value → Option Bool} {xs ys : List Value} {xs' ys' : Array Value} (w : World)
    (heq : ∀ t x y x' y' b, eq t x y = some b → VR φ x x' → VR φ y y' → (Op.equalIn d t x' y').run P w = .ok b w)
    (hx : VRL φ xs xs'.toList) (hy : VRL φ ys ys'.toList) : ∀ (is : List Nat) (b : Bool), leqA eq P e c xs ys is = some b → (Op.eqItems d e c xs' ys' is).run P w = .ok b w := by
  intro is
  induction is with
  | nil => intro b h; simp [leqA] at h; subst h; simp [Op.eqItems]
  | cons i is ih =>
    intro b h
    unfold leqA at h
    split at h
    · rename_i a c1 ha hc
      obtain ⟨a', h1, h2⟩ := part_sim hx ha w
      obtain ⟨c', h3, h4⟩ := part_sim hy hc w
      simp only [Op.eqItems, Sem.run_bind, h1, Result.andThen_ok, h3]
      split at h
      · rename_i he
        rw [heq _ _ _ _ _ _ he h2 h4]
        simp only [Result.andThen_ok, Bool.not_true, Bool.false_eq_true, if_false]
        exact ih b h
      · rename_i he
        simp at h; subst h
        rw [heq _ _ _ _ _ _ he h2 h4]
        simp
      · cases h
    · cases h

theorem symP_str {φ : Phi} {x y x' y' : Value} {b : Bool} {t : TypeId} (w : World) (n : Nat) (hu : P.underlying t = some .string) (h : symQ .eqs x y = some b) (hx : VR φ x x') (hy : VR φ y y') : (Op.equalIn (n + 1) t x' y').run P w = .ok b w := by
  have h := symQ_spec h hx hy
  simp only [sev] at h
  split at h
  · rename_i a a' he
    simp only [List.cons.injEq, and_true] at he
    obtain ⟨rfl, rfl⟩ := he
    cases h
    simp [Op.equalIn, run_underlying hu, beq_toListBytes, ByteArray.toList_eq]
  · cases h

theorem symP_bool {φ : Phi} {x y x' y' : Value} {b : Bool} {t : TypeId} (w : World) (n : Nat) (hu : P.underlying t = some .bool) (h : symQ (.beq false) x y = some b) (hx : VR φ x x') (hy : VR φ y y') : (Op.equalIn (n + 1) t x' y').run P w = .ok b w := by
  have h := symQ_spec h hx hy
  simp only [sev] at h
  split at h
  · rename_i a a' he
    simp only [List.cons.injEq, and_true] at he
    obtain ⟨rfl, rfl⟩ := he
    cases h
    simp [Op.equalIn, run_underlying hu]
  · cases h

set_option maxHeartbeats 2000000 in
theorem leq_sim {φ : Phi} (w : World) : ∀ (d k : Nat) (t : TypeId) (x y x' y' : Value) (b : Bool), leq P d t x y = some b → VR φ x x' → VR φ y y' →
    (Op.equalIn (k + d) t x' y').run P w = .ok b w := by
  intro d
  induction d with
  | zero => intro k t x y x' y' b h; simp [leq] at h
  | succ d ih =>
    intro k t x y x' y' b h hx hy
    unfold leq at h
    rw [show k + (d + 1) = (k + d) + 1 by omega]
    split at h <;> rename_i hu <;> first
      | (cases hx <;> cases hy <;> (simp at h; subst h; simp [Op.equalIn, run_underlying hu]); done)
      | skip
    · exact symP_bool w (k + d) (by assumption) h hx hy
    · rename_i k1 k1' a1 b1
      cases hx; cases hy
      split at h
      · rename_i hk; subst hk; simp at h; subst h; simp [Op.equalIn, run_underlying hu]
      · cases h
    · exact symEq_sim w (k + d) (by assumption) h hx hy
    · cases hx; cases hy; simp at h; subst h
      rename_i a1 b1
      simp [Op.equalIn, run_underlying hu, beq_toListBytes, ByteArray.toList_eq]
    · exact symP_str w (k + d) (by assumption) h hx hy
    · rename_i fs xs0 ys0
      cases hs : P.stoodInHeld t with
      | true => simp [hs] at h
      | false =>
        simp only [hs, cond_false] at h
        cases hx with | agg xs xs' hxs => ?_
        cases hy with | agg ys ys' hys => ?_
        have hf : P.underlying t = some (.struct (P.fieldsOf t)) := by simp [Program.fieldsOf, hu]
        have hf' : (P.fieldsOf t) = fs := by simp [Program.fieldsOf, hu]
        rw [run_equalIn_struct w (k + d) t xs' ys' hf hs, hf']
        exact eqFields_sim w (fun t x y x' y' b hq h1 h2 => ih k t x y x' y' b hq h1 h2) hxs hys _ b h
    · rename_i n e xs0 ys0
      split at h
      · rename_i i hi
        cases hx with | agg xs xs' hxs => ?_
        cases hy with | agg ys ys' hys => ?_
        rw [run_equalIn_array w (k + d) xs' ys' hu hi]
        have hc : P.cellsOf e = i.size := by simp [Program.cellsOf, hi]
        rw [hc]
        exact eqItems_sim w (fun t x y x' y' b hq h1 h2 => ih k t x y x' y' b hq h1 h2) hxs hys _ b h
      · cases h
    · rename_i a n
      cases hy
      split at h
      case h_2 => cases h
      rename_i b' hl
      cases h
      obtain ⟨_, _, h3⟩ := llk_spec SymV.lok hl
      simp only [List.map_cons, List.map_nil, denX, lsev, Option.map_eq_some_iff] at h3
      obtain ⟨rs, hr, hb⟩ := h3
      cases hb
      rcases hx.lsymD.rows hr with ⟨rfl, h2, _⟩ | ⟨h2, b, o, kk, cap, c, e, m, us, rfl, _⟩
      · rw [h2]; simp [Op.equalIn, run_underlying hu, isNilL]
      · rw [h2, lv_notnil]; simp [Op.equalIn, run_underlying hu]
    · cases h

def isFl : Value → Bool
  | .float _ _ => true
  | _ => false

theorem DenF.noAI {fz : Nat → Option Obj} {v d : Value} (h : DenF fz v d) : (∀ cs, v ≠ .agg cs) ∧ v ≠ .nilIface := by
  have _s := SymV.val
  cases h with
  | sc v h1 => cases v <;> first | (cases h1; done) | (simp [isOneV] at h1; done) | exact ⟨(fun _ h => by cases h), (fun h => by cases h)⟩
  | list => exact ⟨(fun _ h => by cases h), (fun h => by cases h)⟩
  | place => exact ⟨(fun _ h => by cases h), (fun h => by cases h)⟩

theorem guard_noL (op : BinOp) (t : TypeId) (xo yo : Operand) {a : Value} (b : Value) (h : (∀ cs, a ≠ .agg cs) ∧ a ≠ .nilIface) : eqGuard op t xo yo a b = pure () := by
  have _s := SymV.val
  cases a <;> first | exact absurd rfl (h.1 _) | exact absurd rfl h.2 | skip
  all_goals cases op <;> rfl

theorem guard_noR (op : BinOp) (t : TypeId) (xo yo : Operand) (a : Value) {b : Value} (h : (∀ cs, b ≠ .agg cs) ∧ b ≠ .nilIface) : eqGuard op t xo yo a b = pure () := by
  have _s := SymV.val
  cases b <;> first | exact absurd rfl (h.1 _) | exact absurd rfl h.2 | skip
  all_goals (cases a <;> cases op <;> rfl)

theorem guard_sim {φ : Phi} {op : BinOp} {t : TypeId} {xo yo : Operand} {x y x' y' : Value} (w : World) (hsx : isSym x = false) (hsy : isSym y = false) (h : lguard P t (isConst xo || isConst yo) x y = true)
    (hx : VR φ x x') (hy : VR φ y y') : (eqGuard op t xo yo x' y').run P w = .ok () w := by
  have _s := SymV.val
  cases hfx : isFl x with
  | true => cases hx <;> first | (rename_i hd; rw [guard_noL op t xo yo y' (DenF.noAI hd)]; rfl) | cases hfx
  | false =>
  cases hfy : isFl y with
  | true => cases hy <;> first | (rename_i hd; rw [guard_noR op t xo yo x' (DenF.noAI hd)]; rfl) | cases hfy
  | false =>
  by_cases hop : op = .eql ∨ op = .neq
  · cases hx <;> cases hy <;> first
      | (rcases hop with rfl | rfl <;> rfl)
      | (exfalso; simp [isSym] at hsx; done)
      | (exfalso; simp [isFl] at hfx; done)
      | (exfalso; simp [isFl] at hfy; done)
      | (exfalso; simp [isSym] at hsy; done)
      | skip
    · simp only [lguard] at h
      rcases hop with rfl | rfl <;> cases xo <;> cases yo <;> simp [isConst] at h <;> simp [eqGuard]
    · simp only [lguard, Bool.not_eq_true'] at h
      exact run_eqGuard_agg w op t xo yo _ _ h
  · have : ∀ a b, eqGuard op t xo yo a b = pure () := by
      intro a b
      cases op <;> first | rfl | (simp at hop)
    rw [this]; rfl

theorem bin_int (op : BinOp) (t : TypeId) (xo yo : Operand) (k k' : IntKind) (a b : Int) : eqGuard op t xo yo (.int k a) (.int k' b) = pure () := by
  have _s := SymV.val
  cases op <;> rfl
theorem bin_str (op : BinOp) (t : TypeId) (xo yo : Operand) (a b : ByteArray) : eqGuard op t xo yo (.string a) (.string b) = pure () := by
  have _s := SymV.val
  cases op <;> rfl

theorem append_bytes (x y : ByteArray) : x ++ y = ⟨⟨x.data.toList ++ y.data.toList⟩⟩ := by
  have _s := SymV.val
  apply ByteArray.ext
  simp [ByteArray.data_append]

end
end Go.Eng
/- Rows that stay as they are, and rows of lists that are owned. -/
namespace Go.Eng
variable [SymV]
section
variable {P : Program}

inductive DenL (fz : Nat → Option Obj) : List Value → List Value → Prop where
  | nil : DenL fz [] []
  | cons (v d : Value) (vs ds : List Value) : DenF fz v d → DenL fz vs ds → DenL fz (v :: vs) (d :: ds)

theorem DenL.length {fz : Nat → Option Obj} {vs ds : List Value} (h : DenL fz vs ds) : vs.length = ds.length := by
  have _s := SymV.val
  induction h with
  | nil => rfl
  | cons _ _ _ _ _ _ ih => simp [ih]
theorem DenL.append {fz : Nat → Option Obj} {vs ds us es : List Value} (h : DenL fz vs ds) (h' : DenL fz us es) : DenL fz (vs ++ us) (ds ++ es) := by
  have _s := SymV.val
  induction h with
  | nil => exact h'
  | cons v d _ _ h1 _ ih => exact .cons v d _ _ h1 ih
theorem DenL.get {fz : Nat → Option Obj} {vs ds : List Value} (h : DenL fz vs ds) : ∀ {j : Nat} {d : Value}, ds[j]? = some d → ∃ v, vs[j]? = some v ∧ DenF fz v d := by
  have _s := SymV.val
  induction h with
  | nil => intro j d h; simp at h
  | cons v d _ _ h1 _ ih =>
    intro j d' hj
    cases j with
    | zero => simp at hj; subst hj; exact ⟨v, by simp, h1⟩
    | succ j => simpa using ih (by simpa using hj)
theorem DenL.getV {fz : Nat → Option Obj} {vs ds : List Value} (h : DenL fz vs ds) : ∀ {j : Nat} {v : Value}, vs[j]? = some v → ∃ d, ds[j]? = some d ∧ DenF fz v d := by
  have _s := SymV.val
  induction h with
  | nil => intro j d h; simp at h
  | cons v d _ _ h1 _ ih =>
    intro j d' hj
    cases j with
    | zero => simp at hj; subst hj; exact ⟨d, by simp, h1⟩
    | succ j => simpa using ih (by simpa using hj)
theorem DenL.of_get {fz : Nat → Option Obj} : ∀ {vs ds : List Value}, vs.length = ds.length → (∀ (j : Nat) (v d : Value), vs[j]? = some v → ds[j]? = some d → DenF fz v d) → DenL fz vs ds
  | [], [], _, _ => by have _s := SymV.val; have _s := SymV.val; exact .nil
  | [], _ :: _, h, _ => by simp at h
  | _ :: _, [], h, _ => by simp at h
  | v :: vs, d :: ds, h, hg => .cons v d vs ds (hg 0 v d (by simp) (by simp)) (DenL.of_get (by simpa using h) fun j x y hx hy => hg (j + 1) x y (by simpa using hx) (by simpa using hy))
theorem DenL.oneCell {fz : Nat → Option Obj} {vs ds : List Value} (h : DenL fz vs ds) : ∀ v ∈ vs, v.oneCell' = true := by
  have _s := SymV.val
  induction h with
  | nil => intro v hv; simp at hv
  | cons v d _ _ h1 _ ih =>
    intro u hu
    rcases List.mem_cons.1 hu with rfl | hu
    · exact h1.oneCell
    · exact ih u hu
theorem DenL.mono {fz fz' : Nat → Option Obj} (hz : ∀ b o, fz b = some o → fz' b = some o) {vs ds : List Value} (h : DenL fz vs ds) : DenL fz' vs ds := by
  have _s := SymV.val
  induction h with
  | nil => exact .nil
  | cons v d _ _ h1 _ ih => exact .cons v d _ _ (h1.mono hz) ih

/-- rows within cells -/
structure RowsIn (fz : Nat → Option Obj) (c : Array Value) (o k : Nat) (rs : List (List Value)) : Prop where
  len : ∀ (i : Nat) (r : List Value), rs[i]? = some r → r.length = k
  cell : ∀ (i : Nat) (r : List Value) (j : Nat) (d : Value), rs[i]? = some r → r[j]? = some d → ∃ u, c[o + i * k + j]? = some u ∧ DenF fz u d

theorem RowsIn.mono {fz fz' : Nat → Option Obj} (hz : ∀ b o, fz b = some o → fz' b = some o) {c : Array Value} {o k : Nat} {rs : List (List Value)} (h : RowsIn fz c o k rs) : RowsIn fz' c o k rs := by
  have _s := SymV.val
  exact ⟨h.len, fun i r j d hr hd => let ⟨u, h1, h2⟩ := h.cell i r j d hr hd; ⟨u, h1, h2.mono hz⟩⟩

theorem RowsIn.tail {fz : Nat → Option Obj} {c : Array Value} {o k : Nat} {r : List Value} {rs : List (List Value)} (h : RowsIn fz c o k (r :: rs)) : RowsIn fz c (o + k) k rs := by
  have _s := SymV.val
  refine ⟨fun i r' hr => h.len (i + 1) r' (by simpa using hr), fun i r' j d hr hd => ?_⟩
  obtain ⟨u, h1, h2⟩ := h.cell (i + 1) r' j d (by simpa using hr) hd
  exact ⟨u, by rw [show o + k + i * k + j = o + (i + 1) * k + j by rw [Nat.add_mul]; omega]; exact h1, h2⟩

/-- all cells of the rows, one behind the other -/
theorem RowsIn.flat {fz : Nat → Option Obj} {c : Array Value} {k : Nat} : ∀ {rs : List (List Value)} {o : Nat}, RowsIn fz c o k rs →
    ∃ vs : List Value, vs.length = rs.length * k ∧ (∀ (j : Nat) (v : Value), vs[j]? = some v → c[o + j]? = some v) ∧ DenL fz vs rs.flatten
  | [], o, _ => by have _s := SymV.val; exact ⟨[], by simp, fun j v h => by simp at h, .nil⟩
  | r :: rs, o, h => by
    obtain ⟨vs, h1, h2, h3⟩ := RowsIn.flat (o := o + k) h.tail
    have hk := h.len 0 r (by simp)
    have hc : ∀ j d, r[j]? = some d → ∃ u, c[o + j]? = some u ∧ DenF fz u d := fun j d hd => by
      obtain ⟨u, q1, q2⟩ := h.cell 0 r j d (by simp) hd
      exact ⟨u, by simpa using q1, q2⟩
    have key : ∀ (r : List Value) (o : Nat), (∀ j d, r[j]? = some d → ∃ u, c[o + j]? = some u ∧ DenF fz u d) → ∃ us : List Value, us.length = r.length ∧ (∀ (j : Nat) (v : Value), us[j]? = some v → c[o + j]? = some v) ∧ DenL fz us r := by
      intro r
      induction r with
      | nil => intro o _; exact ⟨[], rfl, fun j v h => by simp at h, .nil⟩
      | cons a r ih =>
        intro o hc
        obtain ⟨u, q1, q2⟩ := hc 0 a (by simp)
        obtain ⟨us, p1, p2, p3⟩ := ih (o + 1) fun j d hd => by
          obtain ⟨u, q1, q2⟩ := hc (j + 1) d (by simpa using hd)
          exact ⟨u, by rw [show o + 1 + j = o + (j + 1) by omega]; exact q1, q2⟩
        refine ⟨u :: us, by simp [p1], fun j v hv => ?_, .cons u a us r q2 p3⟩
        cases j with
        | zero => simp at hv; subst hv; simpa using q1
        | succ j => rw [show o + (j + 1) = o + 1 + j by omega]; exact p2 j v (by simpa using hv)
    obtain ⟨us, p1, p2, p3⟩ := key r o hc
    refine ⟨us ++ vs, ?_, fun j v hv => ?_, ?_⟩
    · rw [List.length_append, p1, hk, h1, List.length_cons, Nat.add_mul, Nat.one_mul, Nat.add_comm]
    · by_cases hj : j < us.length
      · rw [List.getElem?_append_left hj] at hv
        exact p2 j v hv
      · rw [List.getElem?_append_right (by omega)] at hv
        have := h2 _ v hv
        rw [show o + j = o + k + (j - us.length) by omega]
        exact this
    · rw [List.flatten_cons]
      exact p3.append h3

theorem DenF.rowsIn {fz : Nat → Option Obj} {v d : Value} {rs : List (List Value)} (h : DenF fz v d) (hr : lrows d = some rs) : (v = .slice none 0 0 ∧ d = .slice none 0 0 ∧ rs = []) ∨
    (d = lv rs ∧ ∃ b o k cap c e m, v = .slice (some ⟨b, o, none⟩) rs.length cap ∧ fz b = some (.cells c e m) ∧ rs.length ≤ cap ∧ 1 ≤ k ∧ o + cap * k ≤ c.size ∧ RowsIn fz c o k rs) := by
  have _s := SymV.val
  rcases h.rows hr with h1 | ⟨h1, b, o, k, cap, c, e, m, us, h2, h3, h4, h5, h6, h7, h8⟩
  · exact .inl h1
  · exact .inr ⟨h1, b, o, k, cap, c, e, m, h2, h3, h4, h5, h6, h7, fun i r j d hr hd => ⟨_, (h8 i r j d hr hd).1, (h8 i r j d hr hd).2⟩⟩

theorem RowsIn.den {fz : Nat → Option Obj} {b o k cap : Nat} {c : Array Value} {e : TypeId} {m : Nat × Nat} {rs : List (List Value)} (hb : fz b = some (.cells c e m)) (hn : rs.length ≤ cap) (hk : 1 ≤ k) (hs : o + cap * k ≤ c.size) (h : RowsIn fz c o k rs) :
    DenF fz (.slice (some ⟨b, o, none⟩) rs.length cap) (lv rs) := by
  have _s := SymV.val
  have key : ∀ (i : Nat) (r : List Value) (j : Nat) (d : Value), rs[i]? = some r → r[j]? = some d → c[o + i * k + j]? = some ((c[o + i * k + j]?).getD undef) ∧ DenF fz ((c[o + i * k + j]?).getD undef) d := fun i r j d hr hd => by
    obtain ⟨u, h1, h2⟩ := h.cell i r j d hr hd
    rw [h1]; exact ⟨rfl, h2⟩
  exact .list b o _ k cap c e m rs (fun i j => (c[o + i * k + j]?).getD undef) hb rfl hn hk hs h.len (fun i r j d hr hd => (key i r j d hr hd).1) fun i r j d hr hd => (key i r j d hr hd).2

/-- a scalar's deep value is itself -/
theorem DenF.sc_eq {fz : Nat → Option Obj} {v d : Value} (h : DenF fz v d) (hd : isOneV d = true) : v = d := by
  have _s := SymV.val
  cases h with
  | sc => rfl
  | list => cases hd
  | place => cases hd

theorem DenF.int {fz : Nat → Option Obj} {v d : Value} {i : Nat} (h : DenF fz v d) (hd : int1 d = some i) : ∃ kd : IntKind, v = .int kd i ∧ d = .int kd i := by
  have _s := SymV.val
  unfold int1 at hd
  split at hd
  · rename_i kd n
    cases hc : decide (0 ≤ n) with
    | false => rw [hc] at hd; cases hd
    | true =>
      rw [hc] at hd
      simp only [cond_true, Option.some.injEq] at hd
      have h0 := of_decide_eq_true hc
      have : (i : Int) = n := by omega
      rw [this]
      exact ⟨kd, h.sc_eq rfl, rfl⟩
  · cases hd

theorem VR.toDen {φ : Phi} {x v : Value} (hx : isLxP x = true) (h : VR φ x v) : DenF φ.fz v (denX SymV.val SymV.lst x) := by
  cases h with
  | sym k n m v hv => subst hv; exact .sc _ (SymV.one n)
  | lsym k n v hd => exact hd
  | bool b => exact .sc _ rfl
  | int k n => exact .sc _ rfl
  | string s => exact .sc _ rfl
  | snil n c => exact .sc _ rfl
  | _ => cases hx

theorem VRL.toDen {φ : Phi} : ∀ {xs vs : List Value}, xs.all isLxP = true → VRL φ xs vs → DenL φ.fz vs (xs.map (denX SymV.val SymV.lst))
  | [], _, _, h => by cases h; exact .nil
  | x :: xs, _, hs, h => by
    simp only [List.all_cons, Bool.and_eq_true] at hs
    cases h with
    | cons _ y _ ys h1 h2 => exact .cons _ _ _ _ (h1.toDen hs.1) (VRL.toDen hs.2 h2)

theorem VR.ofDen {φ : Phi} {x v : Value} (hx : isLxP x = true) (h : DenF φ.fz v (denX SymV.val SymV.lst x)) : VR φ x v := by
  cases x with
  | complex k n m => exact .sym k n m v (h.sc_eq (SymV.one n))
  | float k n => exact .lsym k n v h
  | bool b => rw [h.sc_eq rfl]; exact .bool b
  | int k n => rw [h.sc_eq rfl]; exact .int k n
  | string s => rw [h.sc_eq rfl]; exact .string s
  | slice a n c =>
    cases a with
    | none => rw [h.sc_eq rfl]; exact .snil n c
    | some a => cases hx
  | _ => cases hx

theorem VRL.ofDen {φ : Phi} : ∀ {xs vs : List Value}, xs.all isLxP = true → DenL φ.fz vs (xs.map (denX SymV.val SymV.lst)) → VRL φ xs vs
  | [], _, _, h => by cases h; exact .nil
  | x :: xs, _, hs, h => by
    simp only [List.all_cons, Bool.and_eq_true] at hs
    cases h with
    | cons v d vs ds h1 h2 => exact .cons _ _ _ _ (.ofDen hs.1 h1) (VRL.ofDen hs.2 h2)

/-- a scalar answer -/
theorem VR.ofSc {φ : Phi} {x v : Value} (hx : isLxP x = true) (hv : isOneV v = true) (h : v = denX SymV.val SymV.lst x) : VR φ x v :=
  .ofDen hx (by rw [← h]; exact .sc v hv)

theorem DenL.lbytes {fz : Nat → Option Obj} {vs ds : List Value} (h : DenL fz vs ds) : ∀ {bs : List UInt8}, Eng.lbytes ds = some bs → Eng.lbytes vs = some bs := by
  have _s := SymV.val
  induction h with
  | nil => intro bs h; exact h
  | cons v d vs ds h1 _ ih =>
    intro bs hb
    unfold Eng.lbytes at hb
    split at hb
    · rename_i hh; cases hh
    · rename_i n r hh
      cases hh
      simp only [Option.map_eq_some_iff] at hb
      obtain ⟨bs', hb, rfl⟩ := hb
      rw [h1.sc_eq rfl]
      simp [Eng.lbytes, ih hb]
    · cases hb

theorem b1_rows : ∀ {rs : List (List Value)} {bs : List UInt8}, b1 (rs.map fun r => .agg ⟨r⟩) = some bs → Eng.lbytes rs.flatten = some bs
  | [], bs, h => by have _s := SymV.val; exact h
  | r :: t, bs, h => by
    simp only [List.map_cons, b1] at h
    split at h
    · simp only [Option.map_eq_some_iff] at h
      obtain ⟨bs', hb, rfl⟩ := h
      have := b1_rows hb
      rw [List.flatten_cons]
      simp [Eng.lbytes, this]
    · cases h

theorem aggs_is : ∀ {l : List Value} {rs : List (List Value)}, aggs l = some rs → l = rs.map fun r => .agg ⟨r⟩
  | [], rs, h => by have _s := SymV.val; cases h; rfl
  | .agg r :: t, rs, h => by
    simp only [aggs, Option.map_eq_some_iff] at h
    obtain ⟨ts, h, rfl⟩ := h
    simp [← aggs_is h]
  | .bool _ :: _, _, h => by cases h
  | .int _ _ :: _, _, h => by cases h
  | .float _ _ :: _, _, h => by cases h
  | .complex _ _ _ :: _, _, h => by cases h
  | .string _ :: _, _, h => by cases h
  | .pointer _ :: _, _, h => by cases h
  | .slice _ _ _ :: _, _, h => by cases h
  | .map _ :: _, _, h => by cases h
  | .chan _ :: _, _, h => by cases h
  | .func _ _ _ :: _, _, h => by cases h
  | .nilFunc :: _, _, h => by cases h
  | .iface _ _ :: _, _, h => by cases h
  | .nilIface :: _, _, h => by cases h
  | .tuple _ :: _, _, h => by cases h

theorem b1_aggs : ∀ {l : List Value} {bs : List UInt8}, b1 l = some bs → ∃ rs, aggs l = some rs
  | [], _, _ => by have _s := SymV.val; exact ⟨[], rfl⟩
  | .agg r :: t, bs, h => by
    simp only [b1] at h
    split at h
    · simp only [Option.map_eq_some_iff] at h
      obtain ⟨_, h, _⟩ := h
      obtain ⟨rs, h⟩ := b1_aggs h
      exact ⟨r.toList :: rs, by simp [aggs, h]⟩
    · cases h
  | .bool _ :: _, _, h => by cases h
  | .int _ _ :: _, _, h => by cases h
  | .float _ _ :: _, _, h => by cases h
  | .complex _ _ _ :: _, _, h => by cases h
  | .string _ :: _, _, h => by cases h
  | .pointer _ :: _, _, h => by cases h
  | .slice _ _ _ :: _, _, h => by cases h
  | .map _ :: _, _, h => by cases h
  | .chan _ :: _, _, h => by cases h
  | .func _ _ _ :: _, _, h => by cases h
  | .nilFunc :: _, _, h => by cases h
  | .iface _ _ :: _, _, h => by cases h
  | .nilIface :: _, _, h => by cases h
  | .tuple _ :: _, _, h => by cases h

/-- what .tos says -/
theorem tos_spec {d v : Value} (h : lsev .tos [d] = some v) : ∃ rs bs, lrows d = some rs ∧ Eng.lbytes rs.flatten = some bs ∧ v = .string ⟨⟨bs⟩⟩ ∧ (∀ r ∈ rs, r.length = 1) := by
  have _s := SymV.val
  simp only [lsev] at h
  split at h
  · rename_i he; cases he; cases h; exact ⟨[], [], rfl, rfl, rfl, fun r hr => by simp at hr⟩
  · rename_i rs0 he
    cases he
    simp only [Option.map_eq_some_iff] at h
    obtain ⟨bs, hb, rfl⟩ := h
    obtain ⟨rs, hr⟩ := b1_aggs hb
    have he := aggs_is hr
    rw [he] at hb
    refine ⟨rs, bs, hr, b1_rows hb, rfl, ?_⟩
    clear hr he
    induction rs generalizing bs with
    | nil => intro r hr; simp at hr
    | cons a t ih =>
      simp only [List.map_cons, b1] at hb
      split at hb
      · simp only [Option.map_eq_some_iff] at hb
        obtain ⟨bs', hb, rfl⟩ := hb
        intro r hr
        rcases List.mem_cons.1 hr with rfl | hr
        · rfl
        · exact ih bs' hb r hr
      · cases hb
  · cases h

/-- the cells of rows, loaded -/
theorem rows_load {fz : Nat → Option Obj} {c : Array Value} {b o k : Nat} {e : TypeId} {m : Nat × Nat} {rs : List (List Value)} (hr : RowsIn fz c o k rs) :
    ∃ vs : List Value, vs.length = rs.length * k ∧ DenL fz vs rs.flatten ∧ ∀ W : World, W.heap[b]? = some (.cells c e m) → (loadCells ⟨b, o, none⟩ (rs.length * k)).run P W = .ok ⟨vs⟩ W := by
  have _s := SymV.val
  obtain ⟨vs, h1, h2, h3⟩ := hr.flat
  refine ⟨vs, h1, h3, fun W hW => ?_⟩
  rw [← h1]
  exact run_loadCells_list (P := P) W ⟨b, o, none⟩ vs fun j v hv => by
    rw [addr_add, cell_of_row W b _ c e m hW]
    exact h2 j v hv
end
end Go.Eng
/- The engine's quiet operations are those of the model: the operations one by one. -/
namespace Go.Eng
variable [SymV]
section
variable {P : Program}

theorem isNum_of_bin {op : BinOp} {t : TypeId} {k k' : IntKind} {a b : Int} {v : Value} (h : pureSem (binOp op t (.int k a) (.int k' b)) = some v) : ubF 1 v = 0 := by
  have _s := SymV.val
  have hall : ∀ s : Sem Value, (s = .pure v) → pureSem s = some v := fun s hs => by rw [hs]; rfl
  cases op <;> simp only [binOp] at h <;> first
    | (split at h
       · simp [pureSem, stuck] at h
       · simp only [Op.intArith, Op.intDiv, Op.intBits, Op.intCmp] at h
         first
           | (simp [pureSem, Pure.pure] at h; subst h; rfl)
           | (split at h
              · simp [pureSem, runtimePanic, goPanic, program, bind, Sem.bind] at h
              · simp [pureSem, Pure.pure] at h; subst h; rfl))
    | (simp only [Op.shift] at h
       split at h
       · simp [pureSem, runtimePanic, goPanic, program, bind, Sem.bind] at h
       · simp [pureSem, Pure.pure] at h; subst h; rfl)

def eqOther : Value → Value → Bool
  | .int .., .int .. => false
  | .float .., .float .. => false
  | .complex .., .complex .. => false
  | .string .., .string .. => false
  | _, _ => true

theorem eqOther_eql (t : TypeId) (x y : Value) (h : eqOther x y = true) : binOp .eql t x y = (do pure (.bool (← Op.equal t x y))) := by
  have _s := SymV.val
  cases x <;> cases y <;> first | rfl | (simp [eqOther] at h)
theorem eqOther_neq (t : TypeId) (x y : Value) (h : eqOther x y = true) : binOp .neq t x y = (do pure (.bool (!(← Op.equal t x y)))) := by
  have _s := SymV.val
  cases x <;> cases y <;> first | rfl | (simp [eqOther] at h)

theorem leq_fl {d : Nat} {t : TypeId} {a : FloatKind} {n : Nat} {y : Value} {b : Bool} (h : leq P (d + 1) t (.float a n) y = some b) (hs : isSym y = false) : y = .slice none 0 0 := by
  unfold leq at h
  split at h <;> first
    | rfl
    | (exfalso; simp [symQ, isSym, hs] at h; done)
    | (exfalso; simp_all [symQ, isSym]; done)
theorem leq_fr {d : Nat} {t : TypeId} {a : FloatKind} {n : Nat} {x : Value} {b : Bool} (h : leq P (d + 1) t x (.float a n) = some b) (hs : isSym x = false) : False := by
  unfold leq at h
  split at h <;> first
    | (simp [symQ, isSym, hs] at h; done)
    | (simp_all [symQ, isSym]; done)

theorem eqOther_VR {φ : Phi} {x y x' y' : Value} (hsx : isSym x = false) (hsy : isSym y = false) (hfx : isFl x = false) (hfy : isFl y = false) (hx : VR φ x x') (hy : VR φ y y') : eqOther x' y' = eqOther x y := by
  have _s := SymV.val
  have _s := SymV.val
  cases hx <;> cases hy <;> first | rfl | (exfalso; simp [isSym] at hsx; done) | (exfalso; simp [isSym] at hsy; done) | (exfalso; simp [isFl] at hfx; done) | (exfalso; simp [isFl] at hfy; done)

theorem sstr_run (op : BinOp) (t : TypeId) {a b : ByteArray} {v : Value} (h : sstr op a b = some v) (w : World) : (binOp op t (.string a) (.string b)).run P w = .ok v w := by
  cases op <;> simp [sstr] at h
  · cases hs : (a.size + b.size).ble 1152921504606846976 with
    | false => rw [hs] at h; cases h
    | true =>
      rw [hs] at h
      simp only [cond_true, Option.some.injEq] at h
      subst h
      have hle := Nat.le_of_ble_eq_true hs
      have hm : IntKind.i64.max = 9223372036854775807 := by decide
      have hn : ¬ (((a.size + b.size : Nat) : Int) > IntKind.i64.max) := by
        rw [hm]; omega
      simp only [binOp, Op.stringOp, if_neg hn, append_bytes]
      simp
  · subst h
    simp [binOp, Op.stringOp, ByteArray.toList_eq]
  · subst h
    simp [binOp, Op.stringOp, ByteArray.toList_eq]
  · subst h
    simp [binOp, Op.stringOp, ByteArray.toList_eq]

theorem equal_bool {t : TypeId} (hu : P.underlying t = some .bool) (a b : Bool) (w : World) : (Op.equal t (.bool a) (.bool b)).run P w = .ok (a == b) w := by
  have _s := SymV.val
  have _s := SymV.val
  have h : ∀ n, (Op.equalIn (n + 1) t (.bool a) (.bool b)).run P w = .ok (a == b) w := fun n => by simp [Op.equalIn, run_underlying hu]
  exact h 9999

theorem bin_sim {φ : Phi} {op : BinOp} {t : TypeId} {xo yo : Operand} {x y x' y' v : Value} (w : World) (h : lbin P op t (isConst xo || isConst yo) x y = some v)
    (hx : VR φ x x') (hy : VR φ y y') : ∃ v', (do eqGuard op t xo yo x' y'; binOp op t x' y' : Sem Value).run P w = .ok v' w ∧ VR φ v v' := by
  unfold lbin at h
  split at h
  · rename_i k a k' b
    cases hx; cases hy
    refine ⟨v, ?_, VR.refl 1 v (isNum_of_bin h)⟩
    rw [bin_int]
    have := pureSem_run (P := P) h w
    simpa using this
  · rename_i a b
    cases hx; cases hy
    rw [bin_str]
    cases op <;> simp [lstr] at h
    · cases hs : (a.size + b.size).ble 1048576 with
      | false => rw [hs] at h; cases h
      | true =>
        rw [hs] at h
        simp only [cond_true, Option.some.injEq] at h
        subst h
        refine ⟨_, ?_, .string _⟩
        have hle := Nat.le_of_ble_eq_true hs
        have hm : IntKind.i64.max = 9223372036854775807 := by decide
        have hn : ¬ (((a.size + b.size : Nat) : Int) > IntKind.i64.max) := by
          rw [hm]; omega
        simp only [binOp, Op.stringOp, if_neg hn, append_bytes]
        simp
    · subst h
      refine ⟨_, ?_, .bool _⟩
      simp [binOp, Op.stringOp, ByteArray.toList_eq]
    · subst h
      refine ⟨_, ?_, .bool _⟩
      simp [binOp, Op.stringOp, ByteArray.toList_eq]
    · subst h
      refine ⟨_, ?_, .bool _⟩
      simp [binOp, Op.stringOp, ByteArray.toList_eq]
  · rename_i hn1 hn2
    cases hsym : (isSym x || isSym y) with
    | true =>
      rw [hsym] at h
      simp only [cond_true] at h
      unfold lsym at h
      have fin : ∀ q, slk q [x, y] SymD.tab = some v → sev q [x', y'] = some (Eng.den SymV.val v) ∧ VR φ v (Eng.den SymV.val v) := by
        intro q hl
        obtain ⟨h1, h2, h3⟩ := slk_spec SymV.ok hl
        simp only [List.all_cons, List.all_nil, Bool.and_true, Bool.and_eq_true] at h1
        rw [hx.denP h1.1, hy.denP h1.2]
        exact ⟨h3, VR.of_den h2⟩
      split at h
      · rename_i r hl
        cases h
        obtain ⟨g1, g2⟩ := fin _ hl
        refine ⟨_, ?_, g2⟩
        simp only [sev] at g1
        rcases sbin_cases g1 with ⟨k, a, k', b, rfl, rfl, g3⟩ | ⟨a, b, rfl, rfl, g3⟩
        · rw [bin_int]
          have := pureSem_run (P := P) (g3 t) w
          simpa using this
        · rw [bin_str]
          have := sstr_run (P := P) op t g3 w
          simpa using this
      · cases hbd : isBoolD (P.underlying t) with
        | false => rw [hbd] at h; cases h
        | true =>
          rw [hbd] at h
          have hu : P.underlying t = some .bool := by
            revert hbd
            cases P.underlying t with
            | none => intro h; cases h
            | some d => cases d <;> intro h <;> first | rfl | cases h
          simp only [cond_true] at h
          split at h
          · obtain ⟨g1, g2⟩ := fin _ h
            simp only [sev] at g1
            split at g1
            · rename_i a a' he
              simp only [List.cons.injEq, and_true] at he
              obtain ⟨rfl, rfl⟩ := he
              refine ⟨_, ?_, g2⟩
              rw [← Option.some.inj g1]
              have he := equal_bool (P := P) hu a a' w
              simp [eqGuard, binOp, he]
            · cases g1
          · obtain ⟨g1, g2⟩ := fin _ h
            simp only [sev] at g1
            split at g1
            · rename_i a a' he
              simp only [List.cons.injEq, and_true] at he
              obtain ⟨rfl, rfl⟩ := he
              refine ⟨_, ?_, g2⟩
              rw [← Option.some.inj g1]
              have he := equal_bool (P := P) hu a a' w
              simp [eqGuard, binOp, he]
            · cases g1
          · cases h
    | false =>
    rw [hsym] at h
    simp only [cond_false] at h
    obtain ⟨hsx, hsy⟩ : isSym x = false ∧ isSym y = false := by simpa using hsym
    have ho' : ∀ b, leq P 12 t x y = some b → eqOther x y = true := by
      intro b hb
      cases x <;> cases y <;> first
        | rfl
        | exact (hn1 _ _ _ _ rfl rfl).elim
        | exact (hn2 _ _ rfl rfl).elim
        | (exfalso; simp [isSym] at hsx; done)
        | (exfalso; simp [leq] at hb; done)
        | (exfalso; revert hb; unfold leq; cases P.underlying t with
           | none => simp
           | some d => cases d <;> simp [symQ, symQ, isSym])
    have hother : ∀ b, leq P 12 t x y = some b → eqOther x' y' = true := by
      intro b hb
      cases hfx : isFl x with
      | true =>
        cases x <;> try (cases hfx; done)
        have := leq_fl hb hsy
        subst this
        cases hy
        cases x' <;> rfl
      | false =>
      cases hfy : isFl y with
      | true =>
        cases y <;> try (cases hfy; done)
        exact (leq_fr hb hsx).elim
      | false => rw [eqOther_VR hsx hsy hfx hfy hx hy]; exact ho' b hb
    split at h
    · cases hg : lguard P t (isConst xo || isConst yo) x y with
      | false => simp [hg] at h
      | true =>
        simp only [hg, cond_true, Option.map_eq_some_iff] at h
        obtain ⟨b, hb, rfl⟩ := h
        refine ⟨.bool b, ?_, .bool b⟩
        rw [eqOther_eql t x' y' (hother b hb)]
        have he : (Op.equal t x' y').run P w = .ok b w := leq_sim w 12 9988 t x y x' y' b hb hx hy
        simp [guard_sim w hsx hsy hg hx hy, he]
    · cases hg : lguard P t (isConst xo || isConst yo) x y with
      | false => simp [hg] at h
      | true =>
        simp only [hg, cond_true, Option.map_eq_some_iff] at h
        obtain ⟨b, hb, rfl⟩ := h
        refine ⟨.bool (!b), ?_, .bool _⟩
        rw [eqOther_neq t x' y' (hother b hb)]
        have he : (Op.equal t x' y').run P w = .ok b w := leq_sim w 12 9988 t x y x' y' b hb hx hy
        simp [guard_sim w hsx hsy hg hx hy, he]
    · cases h


/-- what is known of a live pointer -/
theorem ptr_cells {φ : Phi} {g : Nat → Option LB} {w : World} {b off : Nat} {y : Value} {c : List Value} (hm : MRp φ g w) (hv : VR φ (.pointer (some ⟨b, off, none⟩)) y) (hc : lcells g b = some c) :
    ∃ l, φ b = some (some l) ∧ y = .pointer (some ⟨l.b, l.sh + off, none⟩) ∧ BRr φ c l w := by
  have _s := SymV.val
  unfold lcells at hc
  split at hc
  · rename_i c' hg
    cases hc
    cases hv with
    | ptr _ _ l hl => exact ⟨l, hl, rfl, BR.rd (.inl ((hm b _ hg).1 l hl))⟩
    | pdead _ _ _ a hl => cases hm.dead hg hl (fun _ _ _ h => by cases h)
  · rename_i c' hg
    cases hc
    cases hv with
    | ptr _ _ l hl => exact ⟨l, hl, rfl, BR.rd (.inr ((hm b _ hg).1 l hl))⟩
    | pdead _ _ _ a hl => cases hm.dead hg hl (fun _ _ _ h => by cases h)
  · cases hc

/-- what is known of a live slice: its cells, and where they are if it has some -/
theorem slice_cells {φ : Phi} {g : Nat → Option LB} {w : World} {a : Addr} {n cp : Nat} {y : Value} {c : List Value} (hm : MRp φ g w) (hv : VR φ (.slice (some a) n cp) y) (hc : lcells g a.block = some c) :
    ∃ l o cp', φ a.block = some (some l) ∧ y = .slice (some ⟨l.b, o, none⟩) n cp' ∧ (o = l.sh + a.off ∨ n = 0) ∧ BRr φ c l w := by
  have _s := SymV.val
  unfold lcells at hc
  split at hc
  · rename_i c' hg
    cases hc
    cases hv with
    | slice b off sp _ _ cap' l hl => exact ⟨l, _, cap', hl, rfl, .inl rfl, BR.rd (.inl ((hm b _ hg).1 l hl))⟩
    | sdead b _ _ _ _ _ a' hl => cases hm.dead hg hl (fun _ _ _ h => by cases h)
    | szero b _ _ o l hl => exact ⟨l, o, 0, hl, rfl, .inr rfl, BR.rd (.inl ((hm b _ hg).1 l hl))⟩
  · rename_i c' hg
    cases hc
    cases hv with
    | slice b off sp _ _ cap' l hl => exact ⟨l, _, cap', hl, rfl, .inl rfl, BR.rd (.inr ((hm b _ hg).1 l hl))⟩
    | sdead b _ _ _ _ _ a' hl => cases hm.dead hg hl (fun _ _ _ h => by cases h)
    | szero b _ _ o l hl => exact ⟨l, o, 0, hl, rfl, .inr rfl, BR.rd (.inr ((hm b _ hg).1 l hl))⟩
  · cases hc

/-- what a list's block says -/
def LstAt (φ : Phi) (k : Nat) (ro : Bool) (rs : List (List Value)) (l : Loc) (w : World) : Prop :=
  ∃ (c : Array Value) (e : TypeId) (m : Nat × Nat), w.heap[l.b]? = some (.cells c e m) ∧ (ro = false → m = (0, 0)) ∧ c.size = l.sz ∧ rs.length = l.n ∧ l.k = k ∧ (1 ≤ k ∧ l.sh + l.n * k ≤ l.sz) ∧ RowsIn φ.fz c l.sh k rs

theorem BR.lstAt {φ : Phi} {ro : Bool} {k s : Nat} {l : Loc} {w : World} (h : BR φ (.lst ro k s) l w) : ∃ rs, SymV.lst s = lv rs ∧ LstAt φ k ro rs l w := by
  obtain ⟨c', e, fz, rs, us, h1, h2, h3, h4, h5, h6, h7, h8, h9, h10⟩ := h
  subst h6
  exact ⟨rs, h4, c', e, fz, h1, h2, h3, h5, rfl, ⟨h7, h8⟩, ⟨h9, fun i r j d hr hd => ⟨_, (h10 i r j d hr hd).1, (h10 i r j d hr hd).2⟩⟩⟩

theorem LstAt.br {φ : Phi} {ro : Bool} {k s : Nat} {l : Loc} {w : World} {rs : List (List Value)} (hs : SymV.lst s = lv rs) (h : LstAt φ k ro rs l w) : BR φ (.lst ro k s) l w := by
  obtain ⟨c, e, m, h1, h2, h3, h4, h5, h6, h7⟩ := h
  subst h5
  have key : ∀ (i : Nat) (r : List Value) (j : Nat) (d : Value), rs[i]? = some r → r[j]? = some d → c[l.sh + i * l.k + j]? = some ((c[l.sh + i * l.k + j]?).getD undef) ∧ DenF φ.fz ((c[l.sh + i * l.k + j]?).getD undef) d := fun i r j d hr hd => by
    obtain ⟨u, q1, q2⟩ := h7.cell i r j d hr hd
    rw [q1]; exact ⟨rfl, q2⟩
  exact ⟨c, e, m, rs, fun i j => (c[l.sh + i * l.k + j]?).getD undef, h1, h2, h3, hs, h4, rfl, h6.1, h6.2, h7.len, key⟩

/-- a list that is owned: nil, or its block -/
theorem chan_cells {φ : Phi} {g : Nat → Option LB} {w : World} {b : Nat} {ro : Bool} {k s : Nat} {y : Value} (hm : MRp φ g w) (hv : VR φ (.chan (some b)) y) (hg : g b = some (.lst ro k s)) :
    (φ b = some none ∧ φ.nl b = true ∧ y = .slice none 0 0 ∧ SymV.lst s = .slice none 0 0) ∨
    ∃ l cap, φ b = some (some l) ∧ y = .slice (some ⟨l.b, l.sh, none⟩) l.n cap ∧ l.n ≤ cap ∧ l.sh + cap * l.k ≤ l.sz ∧ ∃ rs, SymV.lst s = lv rs ∧ LstAt φ k ro rs l w := by
  cases hv with
  | chan _ cap l hl h2 h3 =>
    obtain ⟨rs, h4, h5⟩ := ((hm b _ hg).1 l hl).lstAt
    exact .inr ⟨l, cap, hl, rfl, h2, h3, rs, h4, h5⟩
  | chnil _ hl =>
    obtain ⟨h1, h2⟩ := hm.lst hg hl
    exact .inl ⟨hl, h1, rfl, h2⟩
  | chdead _ n cap a hl h2 h3 =>
    obtain ⟨h1, _⟩ := hm.lst hg hl
    rw [h2] at h1; cases h1

theorem bytes_sim {φ : Phi} {F : Value → ByteArray → Sem (ForInStep ByteArray)} (hF : ∀ n s, F (.int .u8 n) s = pure (ForInStep.yield (s.push (UInt8.ofNat n.toNat)))) :
    ∀ {vs vs' : List Value} {bs : List UInt8}, VRL φ vs vs' → lbytes vs = some bs →
    ∀ (s : ByteArray) (w : World), (forIn vs' s F).run P w = .ok ⟨⟨s.data.toList ++ bs⟩⟩ w
  | _, _, bs, .nil, h, s, w => by have _s := SymV.val; simp [lbytes] at h; subst h; simp
  | _, _, bs, .cons x y xs ys h1 h2, h, s, w => by
    unfold lbytes at h
    split at h
    · rename_i hh; cases hh
    · rename_i n r hh
      cases hh
      cases h1
      simp only [Option.map_eq_some_iff] at h
      obtain ⟨bs', hb, rfl⟩ := h
      have := bytes_sim hF h2 hb (s.push (UInt8.ofNat n.toNat)) w
      simp only [List.forIn_cons, hF, Sem.run_bind, Sem.run_pure, Result.andThen_ok]
      rw [this]
      simp [ByteArray.push]
    · cases h

theorem bytes_run {F : Value → ByteArray → Sem (ForInStep ByteArray)} (hF : ∀ n s, F (.int .u8 n) s = pure (ForInStep.yield (s.push (UInt8.ofNat n.toNat)))) :
    ∀ {vs : List Value} {bs : List UInt8}, lbytes vs = some bs → ∀ (s : ByteArray) (w : World), (forIn vs s F).run P w = .ok ⟨⟨s.data.toList ++ bs⟩⟩ w
  | [], bs, h, s, w => by have _s := SymV.val; simp [lbytes] at h; subst h; simp
  | x :: xs, bs, h, s, w => by
    unfold lbytes at h
    split at h
    · rename_i hh; cases hh
    · rename_i n r hh
      cases hh
      simp only [Option.map_eq_some_iff] at h
      obtain ⟨bs', hb, rfl⟩ := h
      have := bytes_run hF hb (s.push (UInt8.ofNat n.toNat)) w
      simp only [List.forIn_cons, hF, Sem.run_bind, Sem.run_pure, Result.andThen_ok]
      rw [this]
      simp [ByteArray.push]
    · cases h

theorem conv_sim {φ : Phi} {g : Nat → Option LB} {w : World} {src dst : TypeId} {x x' v : Value} (hm : MRp φ g w) (hp : Pin φ w) (h : lconv P g src dst x = some v) (hx : VR φ x x') :
    ∃ v', (convert src dst x').run P w = .ok v' w ∧ VR φ v v' := by
  unfold lconv at h
  split at h
  · rename_i d k n hs hd
    cases h; cases hx
    refine ⟨_, ?_, .int _ _⟩
    simp only [convert, Sem.run_bind, run_underlying hs, run_underlying hd, Result.andThen_ok]
    cases d <;> simp [Conv.intToInt]
  · rename_i d k a n m hs hd
    obtain ⟨g1, g2, g3⟩ := slk_spec SymV.ok h
    have hx' := hx.denP rfl
    simp only [List.map_cons, List.map_nil, ← hx', sev] at g3
    split at g3
    · rename_i j i he
      simp only [List.cons.injEq, and_true] at he
      rw [he]
      refine ⟨_, ?_, VR.of_den g2⟩
      rw [← Option.some.inj g3]
      simp only [convert, Sem.run_bind, run_underlying hs, run_underlying hd, Result.andThen_ok]
      cases d <;> simp [Conv.intToInt]
    · cases g3
  · rename_i hs hd
    cases h; cases hx
    refine ⟨_, ?_, .string _⟩
    simp [convert, run_underlying hs, run_underlying hd]
  · rename_i e n c hs hd
    cases hx
    split at h
    · rename_i he
      cases h
      refine ⟨_, ?_, .string _⟩
      simp [convert, run_underlying hs, run_underlying hd, run_underlying he, Conv.bytesToString]
      rfl
    · cases h
  · rename_i e a n hs hd
    split at h
    · rename_i he
      obtain ⟨g1, g2, g3⟩ := llk_spec SymV.lok h
      obtain ⟨rs, bs, h1, h2, h3, h4⟩ := tos_spec g3
      have fin : ∀ v', v' = Value.string ⟨⟨bs⟩⟩ → VR φ v v' := fun v' hv => .ofSc g2 (by rw [hv]; rfl) (by rw [hv]; exact h3.symm)
      rcases hx.lsymD.rowsIn h1 with ⟨rfl, _, rfl⟩ | ⟨_, b, o, k, cap, c, e', m, rfl, q1, q2, q3, q4, q5⟩
      · cases h2
        refine ⟨_, ?_, fin _ rfl⟩
        simp [convert, run_underlying hs, run_underlying hd, run_underlying he, Conv.bytesToString]
        rfl
      · obtain ⟨vs, l1, l2, l3⟩ := rows_load (P := P) (b := b) (e := e') (m := m) q5
        have hw := (hp.at_ _ _ q1).1
        have hk : rs.length * k = rs.length := by
          cases rs with
          | nil => simp
          | cons r t =>
            have e1 := q5.len 0 r (by simp)
            rw [← e1, h4 r (by simp), Nat.mul_one]
        rw [hk] at l3
        refine ⟨_, ?_, fin _ rfl⟩
        simp only [convert, Sem.run_bind, run_underlying hs, run_underlying hd, run_underlying he, Result.andThen_ok, Conv.bytesToString, l3 w hw]
        rw [← Array.forIn_toList, bytes_run (P := P) (fun _ _ => rfl) (l2.lbytes h2)]
        simp
    · cases h
  · rename_i e b hs hd
    split at h
    · rename_i ro k s he hg
      cases hk : Nat.beq k 1 with
      | false => rw [hk] at h; cases h
      | true =>
        rw [hk] at h
        have := Nat.eq_of_beq_eq_true hk
        subst this
        obtain ⟨g1, g2, g3⟩ := llk_spec SymV.lok h
        obtain ⟨rs, bs, h1, h2, h3, h4⟩ := tos_spec g3
        have fin : ∀ v', v' = Value.string ⟨⟨bs⟩⟩ → VR φ v v' := fun v' hv => .ofSc g2 (by rw [hv]; rfl) (by rw [hv]; exact h3.symm)
        rcases chan_cells hm hx hg with ⟨q0, _, rfl, hn⟩ | ⟨l, cap, q0, rfl, q2, q3, rs', hrs, hbr⟩
        · rw [show denX SymV.val SymV.lst (.float .f64 s) = SymV.lst s from rfl, hn] at h1
          cases h1
          cases h2
          refine ⟨_, ?_, fin _ rfl⟩
          simp [convert, run_underlying hs, run_underlying hd, run_underlying he, Conv.bytesToString]
          rfl
        · rw [show denX SymV.val SymV.lst (.float .f64 s) = SymV.lst s from rfl, hrs, lrows_lv] at h1
          cases h1
          obtain ⟨c', e', m, b1, b2, b3, b4, b5, b6, b7⟩ := hbr
          obtain ⟨vs, l1, l2, l3⟩ := rows_load (P := P) (b := l.b) (e := e') (m := m) b7
          rw [Nat.mul_one, b4] at l3
          refine ⟨_, ?_, fin _ rfl⟩
          simp only [convert, Sem.run_bind, run_underlying hs, run_underlying hd, run_underlying he, Result.andThen_ok, Conv.bytesToString, l3 w b1]
          rw [← Array.forIn_toList, bytes_run (P := P) (fun _ _ => rfl) (l2.lbytes h2)]
          simp
    · cases h
  · rename_i e a n c hs hd
    split at h
    · rename_i he hc
      split at h
      · rename_i vs hr
        cases hzz : isZ a.spot with
        | true => simp [hzz] at hc
        | false =>
        simp only [hzz, cond_false] at hc
        obtain ⟨l, o, cp', hl, rfl, ho, hbr⟩ := slice_cells hm hx hc
        obtain ⟨vs', h1, h2, _⟩ := row_any (P := P) hbr hr ho
        have h1 := h1 w rfl
        split at h
        · rename_i bs hb
          cases h
          refine ⟨_, ?_, .string _⟩
          simp only [convert, Sem.run_bind, run_underlying hs, run_underlying hd, run_underlying he, Result.andThen_ok, Conv.bytesToString, h1]
          rw [← Array.forIn_toList, bytes_sim (P := P) (fun _ _ => rfl) h2 hb]
          simp
        · obtain ⟨i1, i2, i3⟩ := slk_spec SymV.ok h
          rw [← VRL.denP i1 h2] at i3
          simp only [sev, Option.map_eq_some_iff] at i3
          obtain ⟨bs, i3, i4⟩ := i3
          refine ⟨_, ?_, VR.of_den i2⟩
          rw [← i4]
          simp only [convert, Sem.run_bind, run_underlying hs, run_underlying hd, run_underlying he, Result.andThen_ok, Conv.bytesToString, h1]
          rw [← Array.forIn_toList, bytes_run (P := P) (fun _ _ => rfl) i3]
          simp
      · cases h
    · cases h
  · cases h

theorem fieldAddr_sim {φ : Phi} {w : World} {s : TypeId} {x x' v : Value} {f : Nat} (h : lfieldAddr P s x f = some v) (hx : VR φ x x') :
    ∃ v', (Instr.fieldAt s x' f).run P w = .ok v' w ∧ VR φ v v' := by
  unfold lfieldAddr at h
  split at h
  · rename_i fs b off hs
    split at h
    · rename_i fd hf
      split at h
      · rename_i i hi
        cases hz : Nat.beq i.size 0 with
        | true => rw [hz] at h; cases h
        | false =>
          rw [hz] at h
          simp only [cond_false, Option.some.injEq] at h
          subst h
          have hne : ¬ i.size = 0 := fun h0 => by rw [h0] at hz; cases hz
          have hf' : fs[f]? = some fd := by simpa using hf
          cases hx with
          | ptr _ _ l hl =>
            refine ⟨_, ?_, .ptr b (off + fd.offset) l hl⟩
            simp [Instr.fieldAt, run_underlying hs, hf', Instr.sureAddr, fieldPlace, run_sizeOf' hi, hne, addr_add, Nat.add_assoc]
          | pdead _ _ _ a hl =>
            refine ⟨_, ?_, .pdead b (off + fd.offset) none (a.add fd.offset) hl⟩
            simp [Instr.fieldAt, run_underlying hs, hf', Instr.sureAddr, fieldPlace, run_sizeOf' hi, hne]
      · cases h
    · cases h
  · rename_i fs a0 n0 m0 hs
    split at h
    · rename_i fd hf
      split at h
      · rename_i i hi
        cases hz : Nat.beq i.size 0 with
        | true => rw [hz] at h; cases h
        | false =>
          rw [hz] at h
          simp only [cond_false] at h
          have hne : ¬ i.size = 0 := fun h0 => by rw [h0] at hz; cases hz
          have hf' : fs[f]? = some fd := by simpa using hf
          obtain ⟨g1, g2, g3⟩ := slk_spec SymV.ok h
          have hy := hx.denP rfl
          simp only [List.map_cons, List.map_nil, ← hy, sev] at g3
          split at g3
          case h_2 => cases g3
          rename_i a he
          simp only [List.cons.injEq, and_true] at he
          rw [he]
          refine ⟨_, ?_, VR.of_den g2⟩
          rw [← Option.some.inj g3]
          simp [Instr.fieldAt, run_underlying hs, hf', Instr.sureAddr, fieldPlace, run_sizeOf' hi, hne]
      · cases h
    · cases h
  · rename_i fs b off sp hs
    split at h
    · rename_i fd hf
      split at h
      · rename_i i hi
        cases hz : Nat.beq i.size 0 with
        | true => rw [hz] at h; cases h
        | false =>
          rw [hz] at h
          simp only [cond_false, Option.some.injEq] at h
          subst h
          have hne : ¬ i.size = 0 := fun h0 => by rw [h0] at hz; cases hz
          have hf' : fs[f]? = some fd := by simpa using hf
          cases hx with
          | prow _ _ _ l kd j hl hs' =>
            refine ⟨_, ?_, .prow b (off + fd.offset) sp l kd j hl hs'⟩
            simp [Instr.fieldAt, run_underlying hs, hf', Instr.sureAddr, fieldPlace, run_sizeOf' hi, hne, addr_add, Nat.add_assoc]
          | pdead _ _ _ a hl =>
            refine ⟨_, ?_, .pdead b (off + fd.offset) _ (a.add fd.offset) hl⟩
            simp [Instr.fieldAt, run_underlying hs, hf', Instr.sureAddr, fieldPlace, run_sizeOf' hi, hne]
      · cases h
    · cases h
  · rename_i fs a0 n0 hs
    split at h
    · rename_i fd hf
      split at h
      · rename_i i hi
        cases hz : Nat.beq i.size 0 with
        | true => rw [hz] at h; cases h
        | false =>
          rw [hz] at h
          simp only [cond_false] at h
          have hne : ¬ i.size = 0 := fun h0 => by rw [h0] at hz; cases hz
          have hf' : fs[f]? = some fd := by simpa using hf
          have hl : ∃ o r, SymV.lst n0 = .iface o r := by
            cases ho : Nat.beq fd.offset 0 with
            | true =>
              rw [ho] at h
              simp only [cond_true] at h
              split at h
              · rename_i hp
                obtain ⟨o, ds, q, _⟩ := SymV.ptrOK _ _ hp
                exact ⟨o, _, q⟩
              · cases h
            | false =>
              rw [ho] at h
              obtain ⟨_, _, g3⟩ := llk_spec SymV.lok h
              simp only [List.map_cons, List.map_nil, lsev] at g3
              split at g3
              · rename_i he
                simp only [List.cons.injEq, and_true] at he
                exact ⟨_, _, he⟩
              · cases g3
          obtain ⟨o, r, hl⟩ := hl
          have hd := hx.lsymD
          rw [hl] at hd
          have hd' := hd
          generalize hdv : Value.iface o r = dv at hd
          cases hd with
          | sc v h1 => subst hdv; cases h1
          | list => cases hdv
          | place bb p o' c e m r' us q1 q2 q3 q4 =>
          cases hdv
          refine ⟨.pointer (some ⟨bb, p + o + fd.offset, none⟩), ?_, ?_⟩
          · simp [Instr.fieldAt, run_underlying hs, hf', Instr.sureAddr, fieldPlace, run_sizeOf' hi, hne, addr_add]
          · cases ho : Nat.beq fd.offset 0 with
            | true =>
              rw [ho] at h
              simp only [cond_true] at h
              split at h
              · cases h
                rw [Nat.eq_of_beq_eq_true ho]
                exact hx
              · cases h
            | false =>
              rw [ho] at h
              obtain ⟨_, g2, g3⟩ := llk_spec SymV.lok h
              refine .ofDen g2 ?_
              have g3 := (Option.some.inj (show some (Value.iface (o + fd.offset) (.agg ⟨r'⟩)) = _ by rw [← g3]; simp only [List.map_cons, List.map_nil]; rw [show denX SymV.val SymV.lst (.float a0 n0) = SymV.lst n0 from rfl, hl]; rfl))
              rw [← g3, Nat.add_assoc]
              exact .place bb p (o + fd.offset) c e m r' us q1 q2 q3 q4
      · cases h
    · cases h
  · cases h

theorem field_sim {φ : Phi} {w : World} {s : TypeId} {x x' v : Value} {f : Nat} (h : lfield P s x f = some v) (hx : VR φ x x') :
    ∃ v', (Instr.field s x' f).run P w = .ok v' w ∧ VR φ v v' := by
  unfold lfield at h
  split at h
  · rename_i fs cs hs
    split at h
    · rename_i fd hf
      have hf' : fs[f]? = some fd := by simpa using hf
      cases hx with
      | agg _ ys hy =>
        obtain ⟨v', h1, h2⟩ := part_sim hy h w
        exact ⟨v', by simp [Instr.field, run_underlying hs, hf', asAgg, h1], h2⟩
    · cases h
  · cases h

/-- what .iad says -/
theorem iad_spec {k : Nat} {d di v : Value} (h : lsev (.iad k) [d, di] = some v) : ∃ rs j r, lrows d = some rs ∧ int1 di = some j ∧ rs[j]? = some r ∧ r.length = k ∧ 1 ≤ k ∧ Value.iface 0 (.agg ⟨r⟩) = v := by
  have _s := SymV.val
  simp only [lsev] at h
  split at h
  · rename_i rs j h1 h2
    split at h
    · rename_i r h3
      cases hc : (Nat.beq r.length k && Nat.ble 1 k) with
      | false => rw [hc] at h; cases h
      | true =>
        rw [hc] at h
        simp only [cond_true, Option.some.injEq] at h
        rw [Bool.and_eq_true] at hc
        exact ⟨rs, j, r, h1, h2, h3, Nat.eq_of_beq_eq_true hc.1, Nat.le_of_ble_eq_true hc.2, h⟩
    · cases h
  · cases h

/-- the place of a row -/
theorem RowsIn.place {fz : Nat → Option Obj} {b o k j : Nat} {c : Array Value} {e : TypeId} {m : Nat × Nat} {rs : List (List Value)} {r : List Value} (h : RowsIn fz c o k rs) (hb : fz b = some (.cells c e m)) (hs : o + j * k + k ≤ c.size) (hr : rs[j]? = some r) :
    DenF fz (.pointer (some ⟨b, o + j * k, none⟩)) (.iface 0 (.agg ⟨r⟩)) := by
  have _s := SymV.val
  have key : ∀ (i : Nat) (d : Value), r[i]? = some d → c[o + j * k + i]? = some ((c[o + j * k + i]?).getD undef) ∧ DenF fz ((c[o + j * k + i]?).getD undef) d := fun i d hd => by
    obtain ⟨u, h1, h2⟩ := h.cell j r i d hr hd
    rw [h1]; exact ⟨rfl, h2⟩
  have := DenF.place (fz := fz) b (o + j * k) 0 c e m r (fun i => (c[o + j * k + i]?).getD undef) hb (by rw [h.len j r hr]; exact hs) (fun i d hd => (key i d hd).1) fun i d hd => (key i d hd).2
  simpa using this

theorem linx_spec {len k : Nat} {i i' : Value} {φ : Phi} (h : linx len i = some k) (hi : VR φ i i') : ∃ (kd : IntKind) (n : Int), i' = .int kd n ∧ 0 ≤ n ∧ n < len ∧ n.toNat = k := by
  have _s := SymV.val
  cases hi <;> simp only [linx] at h <;> try (cases h; done)
  rename_i kd n
  cases hc : (decide (0 ≤ n) && decide (n < (len : Int))) with
  | false => rw [hc] at h; cases h
  | true =>
    rw [hc] at h
    simp only [cond_true, Option.some.injEq] at h
    rw [Bool.and_eq_true, decide_eq_true_eq, decide_eq_true_eq] at hc
    exact ⟨kd, n, rfl, hc.1, hc.2, h⟩

theorem kidx_sim {φ : Phi} {x x' : Value} (hx : VR φ x x') : ∀ (n : Nat) (v : Value), kidx x n = some v → VR φ v x' := by
  intro n
  induction n with
  | zero => intro v h; cases h
  | succ n ih =>
    intro v h
    unfold kidx at h
    split at h
    · rename_i hl
      cases h
      obtain ⟨g1, _, g3⟩ := slk_spec SymV.ok hl
      have hy := hx.denP (List.all_eq_true.1 g1 x (by simp))
      simp only [List.map_cons, List.map_nil, ← hy, sev] at g3
      split at g3
      case h_2 => cases g3
      rename_i k a k' b he
      simp only [List.cons.injEq, and_true] at he
      obtain ⟨h1, h2⟩ := he
      have h2 : Value.int IntKind.i64 (Int.ofNat n) = .int k' b := h2
      cases h2
      cases hk : decide (k = IntKind.i64) with
      | false => rw [hk] at g3; cases g3
      | true =>
        rw [hk] at g3
        have hk := of_decide_eq_true hk
        subst hk
        simp only [cond_true, Option.some.injEq] at g3
        have g3 : Value.bool (a == Int.ofNat n) = .bool true := g3
        have hab : (a == Int.ofNat n) = true := by injection g3
        have hab : a = Int.ofNat n := by simpa using hab
        rw [h1, hab]
        exact .int _ _
    · exact ih v h

theorem eqi_sim {φ : Phi} {x x' : Value} {kk : IntKind} {c : Int} (hl : slk .eqi [x, .int kk c] SymD.tab = some (.bool true)) (hx : VR φ x x') : x' = .int kk c := by
  obtain ⟨g1, _, g3⟩ := slk_spec SymV.ok hl
  have hy := hx.denP (List.all_eq_true.1 g1 x (by simp))
  simp only [List.map_cons, List.map_nil, ← hy, sev] at g3
  split at g3
  case h_2 => cases g3
  rename_i k a k' b he
  simp only [List.cons.injEq, and_true] at he
  obtain ⟨h1, h2⟩ := he
  have h2 : Value.int kk c = .int k' b := h2
  cases h2
  cases hk : decide (k = kk) with
  | false => rw [hk] at g3; cases g3
  | true =>
    rw [hk] at g3
    have hk := of_decide_eq_true hk
    subst hk
    simp only [cond_true, Option.some.injEq] at g3
    have g3 : Value.bool (a == c) = .bool true := g3
    have hab : (a == c) = true := by injection g3
    have hab : a = c := by simpa using hab
    rw [h1, hab]

theorem kix_sim {φ : Phi} {i i' : Value} {len : Nat} (hi : VR φ i i') : VR φ (kix len i) i' := by
  unfold kix
  split
  · split
    · rename_i h; exact kidx_sim hi _ _ h
    · exact hi
  · exact hi

theorem indexAddr_sim {φ : Phi} {g : Nat → Option LB} {w : World} {t : TypeId} {x x' i i' v : Value} (hm : MRp φ g w) (h : lindexAddr P g t x i = some v) (hx : VR φ x x') (hi : VR φ i i') :
    ∃ v', (Instr.indexAt t x' i').run P w = .ok v' w ∧ VR φ v v' := by
  unfold lindexAddr at h
  split at h
  · rename_i e a n ht
    split at h
    · rename_i ie he
      obtain ⟨g1, g2, g3⟩ := llk_spec SymV.lok h
      simp only [List.all_cons, List.all_nil, Bool.and_true, Bool.and_eq_true] at g1
      obtain ⟨rs, j, r, h1, h2, h3, h4, h5, h6⟩ := iad_spec g3
      obtain ⟨kd, rfl, _⟩ := (hi.toDen g1.2).int h2
      rcases hx.lsymD.rowsIn h1 with ⟨_, _, rfl⟩ | ⟨_, b, o, k, cap, c, e', m, rfl, q1, q2, q3, q4, q5⟩
      · simp at h3
      · have hk : k = ie.size := by rw [← q5.len j r h3, h4]
        subst hk
        have hj := (List.getElem?_eq_some_iff.1 h3).1
        have hjn : (j : Int) < (rs.length : Int) := by omega
        refine ⟨.pointer (some ⟨b, o + j * ie.size, none⟩), ?_, .ofDen g2 ?_⟩
        · simp [Instr.indexAt, asIntOf, run_underlying ht, run_sizeOf' he, addr_add]
          intro hh; omega
        · rw [← h6]
          exact q5.place (m := m) (e := e') q1 (by have := Nat.mul_le_mul_right ie.size (show j + 1 ≤ cap by omega); rw [Nat.add_mul, Nat.one_mul] at this; omega) h3
    · cases h
  · rename_i e b ht
    split at h
    · rename_i ro k s ie hg he
      cases hk : Nat.beq ie.size k with
      | false => rw [hk] at h; cases h
      | true =>
        rw [hk] at h
        have := Nat.eq_of_beq_eq_true hk
        subst this
        simp only [cond_true] at h
        split at h
        · rename_i u hl
          obtain ⟨g1, g2, g3⟩ := llk_spec SymV.lok hl
          simp only [List.all_cons, List.all_nil, Bool.and_true, Bool.and_eq_true] at g1
          obtain ⟨rs, j, r, h1, h2, h3, h4, h5, h6⟩ := iad_spec g3
          obtain ⟨kd, rfl, hd⟩ := (hi.toDen g1.2).int h2
          have hj := (List.getElem?_eq_some_iff.1 h3).1
          rcases chan_cells hm hx hg with ⟨q0, _, rfl, hn⟩ | ⟨l, cap, q0, rfl, q2, q3, rs', hrs, c', e', m, b1, b2, b3, b4, b5, b6, b7⟩
          · rw [show denX SymV.val SymV.lst (.float .f64 s) = SymV.lst s from rfl, hn] at h1
            cases h1
            simp at h3
          · rw [show denX SymV.val SymV.lst (.float .f64 s) = SymV.lst s from rfl, hrs, lrows_lv] at h1
            cases h1
            have hjn : (j : Int) < (l.n : Int) := by omega
            refine ⟨.pointer (some ⟨l.b, l.sh + j * ie.size, none⟩), ?_, ?_⟩
            · simp [Instr.indexAt, asIntOf, run_underlying ht, run_sizeOf' he, addr_add]
              intro hh; omega
            · cases i with
              | int kd' n0 =>
                cases n0 with
                | ofNat n =>
                  cases h
                  cases hi
                  simp only [denX, Value.int.injEq] at hd
                  exact .ptr b _ l q0
                | negSucc n => cases h
              | complex kk mm n0 =>
                cases h
                have hv := hi.denP rfl
                rw [← b5, ← Nat.add_zero (j * l.k)]
                exact .prow b 0 _ l kd j q0 hv.symm
              | _ => cases h
        · cases h
    · cases h
  · rename_i len e b off ht
    split at h
    · rename_i k ie hk he
      cases h
      obtain ⟨kd, n, rfl, h0, h1, rfl⟩ := linx_spec hk (kix_sim hi)
      cases hx with
      | ptr _ _ l hl =>
        refine ⟨_, ?_, .ptr b _ l hl⟩
        simp [Instr.indexAt, asIntOf, run_underlying ht, Instr.sureAddr, h0, h1, run_sizeOf' he, addr_add, Nat.add_assoc]
      | pdead _ _ _ a hl =>
        refine ⟨_, ?_, .pdead b _ none (a.add (n.toNat * ie.size)) hl⟩
        simp [Instr.indexAt, asIntOf, run_underlying ht, Instr.sureAddr, h0, h1, run_sizeOf' he]
    · cases h
  · rename_i e b off sp len cp ht
    split at h
    · rename_i k ie hk he
      cases h
      obtain ⟨kd, n, rfl, h0, h1, rfl⟩ := linx_spec hk (kix_sim hi)
      cases hx with
      | slice _ _ _ _ _ cap' l hl =>
        refine ⟨_, ?_, .ptr b _ l hl⟩
        simp [Instr.indexAt, asIntOf, run_underlying ht, h0, h1, run_sizeOf' he, addr_add, Nat.add_assoc]
      | sdead _ _ _ _ _ cap' a hl =>
        refine ⟨_, ?_, .pdead b _ none (a.add (n.toNat * ie.size)) hl⟩
        simp [Instr.indexAt, asIntOf, run_underlying ht, h0, h1, run_sizeOf' he]
      | szero => omega
    · cases h
  · rename_i e a0 n0 m0 ht
    split at h
    · rename_i ie he
      obtain ⟨g1, g2, g3⟩ := slk_spec SymV.ok h
      simp only [List.all_cons, List.all_nil, Bool.and_true, Bool.and_eq_true] at g1
      have hy := hx.denP g1.1
      have hj := hi.denP g1.2
      simp only [List.map_cons, List.map_nil, ← hy, ← hj, sev] at g3
      split at g3
      case h_2 => cases g3
      rename_i a len c k j he2
      simp only [List.cons.injEq, and_true] at he2
      rw [he2.1, he2.2]
      cases hc : (decide (0 ≤ j) && decide (j < (len : Int))) with
      | false => rw [hc] at g3; cases g3
      | true =>
      rw [hc] at g3
      simp only [Bool.and_eq_true, decide_eq_true_eq] at hc
      obtain ⟨h0, h1⟩ := hc
      refine ⟨_, ?_, VR.of_den g2⟩
      rw [← Option.some.inj g3]
      simp [Instr.indexAt, asIntOf, run_underlying ht, h0, h1, run_sizeOf' he]
    · cases h
  · cases h

theorem sidx_run {t : TypeId} {x i v : Value} (w : World) (ht : P.underlying t = some .string) (h : sev .sidx [x, i] = some v) : (Instr.index t x i).run P w = .ok v w := by
  have _s := SymV.val
  simp only [sev] at h
  split at h
  case h_2 => cases h
  rename_i s kd n he
  simp only [List.cons.injEq, and_true] at he
  obtain ⟨rfl, rfl⟩ := he
  cases hc : decide (0 ≤ n) with
  | false => rw [hc] at h; cases h
  | true =>
    rw [hc] at h
    simp only [cond_true] at h
    have h0 := of_decide_eq_true hc
    split at h
    · rename_i b hb
      cases h
      have hb' : s[n.toNat]? = some b := by
        have : s.data[n.toNat]? = some b := by simpa using hb
        have hlt : n.toNat < s.data.size := (Array.getElem?_eq_some_iff.1 this).1
        have hlt' : n.toNat < s.size := hlt
        rw [getElem?_pos s n.toNat hlt']
        rw [getElem?_pos s.data n.toNat hlt] at this
        exact this
      simp [Instr.index, asIntOf, run_underlying ht, h0, hb']
    · cases h

theorem index_sim {φ : Phi} {w : World} {t : TypeId} {x x' i i' v : Value} (h : lindex P t x i = some v) (hx : VR φ x x') (hi : VR φ i i') :
    ∃ v', (Instr.index t x' i').run P w = .ok v' w ∧ VR φ v v' := by
  unfold lindex at h
  split at h
  · rename_i len e cs ht
    split at h
    · rename_i k ie hk he
      obtain ⟨kd, n, rfl, h0, h1, rfl⟩ := linx_spec hk (kix_sim hi)
      cases hx with
      | agg _ ys hy =>
        obtain ⟨v', h2, h3⟩ := part_sim hy h w
        exact ⟨v', by simp [Instr.index, asIntOf, run_underlying ht, h0, h1, run_sizeOf' he, h2], h3⟩
    · cases h
  · rename_i s ht
    cases hx
    split at h
    · rename_i kd n
      cases hi
      cases hc : decide (0 ≤ n) with
      | false => rw [hc] at h; cases h
      | true =>
        rw [hc] at h
        simp only [cond_true] at h
        have h0 := of_decide_eq_true hc
        split at h
        · rename_i b hb
          cases h
          refine ⟨_, ?_, .int _ _⟩
          have hb' : s[n.toNat]? = some b := by
            have : s.data[n.toNat]? = some b := by simpa using hb
            have hlt : n.toNat < s.data.size := (Array.getElem?_eq_some_iff.1 this).1
            have hlt' : n.toNat < s.size := hlt
            rw [getElem?_pos s n.toNat hlt']
            rw [getElem?_pos s.data n.toNat hlt] at this
            exact this
          simp [Instr.index, asIntOf, run_underlying ht, h0, hb']
        · cases h
    · obtain ⟨g1, g2, g3⟩ := slk_spec SymV.ok h
      refine ⟨_, sidx_run w ht ?_, VR.of_den g2⟩
      rw [← g3, hi.denP rfl]
      rfl
    · cases h
  · rename_i a n m ht
    obtain ⟨g1, g2, g3⟩ := slk_spec SymV.ok h
    simp only [List.all_cons, List.all_nil, Bool.and_true, Bool.and_eq_true] at g1
    refine ⟨_, sidx_run w ht ?_, VR.of_den g2⟩
    rw [← g3, hi.denP g1.2, hx.denP rfl]
    rfl
  · cases h
end
end Go.Eng
