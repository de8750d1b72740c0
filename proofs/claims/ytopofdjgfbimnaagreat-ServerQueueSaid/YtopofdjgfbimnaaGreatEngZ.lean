/- Trees of sixteen branches, read by projections: what the kernel is quick at. -/
import Derived.Orders
namespace Go.Eng

structure N16 (α : Type) where
  c0 : α
  c1 : α
  c2 : α
  c3 : α
  c4 : α
  c5 : α
  c6 : α
  c7 : α
  c8 : α
  c9 : α
  c10 : α
  c11 : α
  c12 : α
  c13 : α
  c14 : α
  c15 : α

inductive Sel where
  | s0
  | s1
  | s2
  | s3
  | s4
  | s5
  | s6
  | s7
  | s8
  | s9
  | s10
  | s11
  | s12
  | s13
  | s14
  | s15

def N16.all {α : Type} (a : α) : N16 α := ⟨a, a, a, a, a, a, a, a, a, a, a, a, a, a, a, a⟩

noncomputable def N16.g0 {α : Type} (n : N16 α) : α := N16.rec (motive := fun _ => α) (fun c0 _ _ _ _ _ _ _ _ _ _ _ _ _ _ _ => c0) n
noncomputable def N16.g1 {α : Type} (n : N16 α) : α := N16.rec (motive := fun _ => α) (fun _ c1 _ _ _ _ _ _ _ _ _ _ _ _ _ _ => c1) n
noncomputable def N16.g2 {α : Type} (n : N16 α) : α := N16.rec (motive := fun _ => α) (fun _ _ c2 _ _ _ _ _ _ _ _ _ _ _ _ _ => c2) n
noncomputable def N16.g3 {α : Type} (n : N16 α) : α := N16.rec (motive := fun _ => α) (fun _ _ _ c3 _ _ _ _ _ _ _ _ _ _ _ _ => c3) n
noncomputable def N16.g4 {α : Type} (n : N16 α) : α := N16.rec (motive := fun _ => α) (fun _ _ _ _ c4 _ _ _ _ _ _ _ _ _ _ _ => c4) n
noncomputable def N16.g5 {α : Type} (n : N16 α) : α := N16.rec (motive := fun _ => α) (fun _ _ _ _ _ c5 _ _ _ _ _ _ _ _ _ _ => c5) n
noncomputable def N16.g6 {α : Type} (n : N16 α) : α := N16.rec (motive := fun _ => α) (fun _ _ _ _ _ _ c6 _ _ _ _ _ _ _ _ _ => c6) n
noncomputable def N16.g7 {α : Type} (n : N16 α) : α := N16.rec (motive := fun _ => α) (fun _ _ _ _ _ _ _ c7 _ _ _ _ _ _ _ _ => c7) n
noncomputable def N16.g8 {α : Type} (n : N16 α) : α := N16.rec (motive := fun _ => α) (fun _ _ _ _ _ _ _ _ c8 _ _ _ _ _ _ _ => c8) n
noncomputable def N16.g9 {α : Type} (n : N16 α) : α := N16.rec (motive := fun _ => α) (fun _ _ _ _ _ _ _ _ _ c9 _ _ _ _ _ _ => c9) n
noncomputable def N16.g10 {α : Type} (n : N16 α) : α := N16.rec (motive := fun _ => α) (fun _ _ _ _ _ _ _ _ _ _ c10 _ _ _ _ _ => c10) n
noncomputable def N16.g11 {α : Type} (n : N16 α) : α := N16.rec (motive := fun _ => α) (fun _ _ _ _ _ _ _ _ _ _ _ c11 _ _ _ _ => c11) n
noncomputable def N16.g12 {α : Type} (n : N16 α) : α := N16.rec (motive := fun _ => α) (fun _ _ _ _ _ _ _ _ _ _ _ _ c12 _ _ _ => c12) n
noncomputable def N16.g13 {α : Type} (n : N16 α) : α := N16.rec (motive := fun _ => α) (fun _ _ _ _ _ _ _ _ _ _ _ _ _ c13 _ _ => c13) n
noncomputable def N16.g14 {α : Type} (n : N16 α) : α := N16.rec (motive := fun _ => α) (fun _ _ _ _ _ _ _ _ _ _ _ _ _ _ c14 _ => c14) n
noncomputable def N16.g15 {α : Type} (n : N16 α) : α := N16.rec (motive := fun _ => α) (fun _ _ _ _ _ _ _ _ _ _ _ _ _ _ _ c15 => c15) n
noncomputable def N16.s0 {α : Type} (n : N16 α) (v : α) : N16 α := N16.rec (motive := fun _ => N16 α) (fun _ c1 c2 c3 c4 c5 c6 c7 c8 c9 c10 c11 c12 c13 c14 c15 => ⟨v, c1, c2, c3, c4, c5, c6, c7, c8, c9, c10, c11, c12, c13, c14, c15⟩) n
noncomputable def N16.s1 {α : Type} (n : N16 α) (v : α) : N16 α := N16.rec (motive := fun _ => N16 α) (fun c0 _ c2 c3 c4 c5 c6 c7 c8 c9 c10 c11 c12 c13 c14 c15 => ⟨c0, v, c2, c3, c4, c5, c6, c7, c8, c9, c10, c11, c12, c13, c14, c15⟩) n
noncomputable def N16.s2 {α : Type} (n : N16 α) (v : α) : N16 α := N16.rec (motive := fun _ => N16 α) (fun c0 c1 _ c3 c4 c5 c6 c7 c8 c9 c10 c11 c12 c13 c14 c15 => ⟨c0, c1, v, c3, c4, c5, c6, c7, c8, c9, c10, c11, c12, c13, c14, c15⟩) n
noncomputable def N16.s3 {α : Type} (n : N16 α) (v : α) : N16 α := N16.rec (motive := fun _ => N16 α) (fun c0 c1 c2 _ c4 c5 c6 c7 c8 c9 c10 c11 c12 c13 c14 c15 => ⟨c0, c1, c2, v, c4, c5, c6, c7, c8, c9, c10, c11, c12, c13, c14, c15⟩) n
noncomputable def N16.s4 {α : Type} (n : N16 α) (v : α) : N16 α := N16.rec (motive := fun _ => N16 α) (fun c0 c1 c2 c3 _ c5 c6 c7 c8 c9 c10 c11 c12 c13 c14 c15 => ⟨c0, c1, c2, c3, v, c5, c6, c7, c8, c9, c10, c11, c12, c13, c14, c15⟩) n
noncomputable def N16.s5 {α : Type} (n : N16 α) (v : α) : N16 α := N16.rec (motive := fun _ => N16 α) (fun c0 c1 c2 c3 c4 _ c6 c7 c8 c9 c10 c11 c12 c13 c14 c15 => ⟨c0, c1, c2, c3, c4, v, c6, c7, c8, c9, c10, c11, c12, c13, c14, c15⟩) n
noncomputable def N16.s6 {α : Type} (n : N16 α) (v : α) : N16 α := N16.rec (motive := fun _ => N16 α) (fun c0 c1 c2 c3 c4 c5 _ c7 c8 c9 c10 c11 c12 c13 c14 c15 => ⟨c0, c1, c2, c3, c4, c5, v, c7, c8, c9, c10, c11, c12, c13, c14, c15⟩) n
noncomputable def N16.s7 {α : Type} (n : N16 α) (v : α) : N16 α := N16.rec (motive := fun _ => N16 α) (fun c0 c1 c2 c3 c4 c5 c6 _ c8 c9 c10 c11 c12 c13 c14 c15 => ⟨c0, c1, c2, c3, c4, c5, c6, v, c8, c9, c10, c11, c12, c13, c14, c15⟩) n
noncomputable def N16.s8 {α : Type} (n : N16 α) (v : α) : N16 α := N16.rec (motive := fun _ => N16 α) (fun c0 c1 c2 c3 c4 c5 c6 c7 _ c9 c10 c11 c12 c13 c14 c15 => ⟨c0, c1, c2, c3, c4, c5, c6, c7, v, c9, c10, c11, c12, c13, c14, c15⟩) n
noncomputable def N16.s9 {α : Type} (n : N16 α) (v : α) : N16 α := N16.rec (motive := fun _ => N16 α) (fun c0 c1 c2 c3 c4 c5 c6 c7 c8 _ c10 c11 c12 c13 c14 c15 => ⟨c0, c1, c2, c3, c4, c5, c6, c7, c8, v, c10, c11, c12, c13, c14, c15⟩) n
noncomputable def N16.s10 {α : Type} (n : N16 α) (v : α) : N16 α := N16.rec (motive := fun _ => N16 α) (fun c0 c1 c2 c3 c4 c5 c6 c7 c8 c9 _ c11 c12 c13 c14 c15 => ⟨c0, c1, c2, c3, c4, c5, c6, c7, c8, c9, v, c11, c12, c13, c14, c15⟩) n
noncomputable def N16.s11 {α : Type} (n : N16 α) (v : α) : N16 α := N16.rec (motive := fun _ => N16 α) (fun c0 c1 c2 c3 c4 c5 c6 c7 c8 c9 c10 _ c12 c13 c14 c15 => ⟨c0, c1, c2, c3, c4, c5, c6, c7, c8, c9, c10, v, c12, c13, c14, c15⟩) n
noncomputable def N16.s12 {α : Type} (n : N16 α) (v : α) : N16 α := N16.rec (motive := fun _ => N16 α) (fun c0 c1 c2 c3 c4 c5 c6 c7 c8 c9 c10 c11 _ c13 c14 c15 => ⟨c0, c1, c2, c3, c4, c5, c6, c7, c8, c9, c10, c11, v, c13, c14, c15⟩) n
noncomputable def N16.s13 {α : Type} (n : N16 α) (v : α) : N16 α := N16.rec (motive := fun _ => N16 α) (fun c0 c1 c2 c3 c4 c5 c6 c7 c8 c9 c10 c11 c12 _ c14 c15 => ⟨c0, c1, c2, c3, c4, c5, c6, c7, c8, c9, c10, c11, c12, v, c14, c15⟩) n
noncomputable def N16.s14 {α : Type} (n : N16 α) (v : α) : N16 α := N16.rec (motive := fun _ => N16 α) (fun c0 c1 c2 c3 c4 c5 c6 c7 c8 c9 c10 c11 c12 c13 _ c15 => ⟨c0, c1, c2, c3, c4, c5, c6, c7, c8, c9, c10, c11, c12, c13, v, c15⟩) n
noncomputable def N16.s15 {α : Type} (n : N16 α) (v : α) : N16 α := N16.rec (motive := fun _ => N16 α) (fun c0 c1 c2 c3 c4 c5 c6 c7 c8 c9 c10 c11 c12 c13 c14 _ => ⟨c0, c1, c2, c3, c4, c5, c6, c7, c8, c9, c10, c11, c12, c13, c14, v⟩) n

noncomputable def N16.get {α : Type} (n : N16 α) (s : Sel) : α :=
  Sel.rec (motive := fun _ => N16 α → α) N16.g0 N16.g1 N16.g2 N16.g3 N16.g4 N16.g5 N16.g6 N16.g7 N16.g8 N16.g9 N16.g10 N16.g11 N16.g12 N16.g13 N16.g14 N16.g15 s n

noncomputable def N16.set {α : Type} (n : N16 α) (s : Sel) (v : α) : N16 α :=
  Sel.rec (motive := fun _ => N16 α → α → N16 α) N16.s0 N16.s1 N16.s2 N16.s3 N16.s4 N16.s5 N16.s6 N16.s7 N16.s8 N16.s9 N16.s10 N16.s11 N16.s12 N16.s13 N16.s14 N16.s15 s n v

def selNum : Sel → Nat
  | .s0 => 0
  | .s1 => 1
  | .s2 => 2
  | .s3 => 3
  | .s4 => 4
  | .s5 => 5
  | .s6 => 6
  | .s7 => 7
  | .s8 => 8
  | .s9 => 9
  | .s10 => 10
  | .s11 => 11
  | .s12 => 12
  | .s13 => 13
  | .s14 => 14
  | .s15 => 15

instance selDec : DecidableEq Sel := fun a b => if h : selNum a = selNum b then .isTrue (by cases a <;> cases b <;> first | rfl | (simp [selNum] at h)) else .isFalse (fun e => h (by rw [e]))

theorem N16.get_set {α : Type} (n : N16 α) (s t : Sel) (v : α) : (n.set s v).get t = if s = t then v else n.get t := by
  cases n; cases s <;> cases t <;> rfl

theorem N16.get_all {α : Type} (a : α) (s : Sel) : (N16.all a).get s = a := by cases s <;> rfl

noncomputable def bitR {α : Type} (n k : Nat) (a b : α) : α := Bool.rec (motive := fun _ => α) b a (Nat.beq (Nat.land n k) 0)

/-- the branch for the lowest digit -/
noncomputable def toSel (n : Nat) : Sel := (bitR n 8 (bitR n 4 (bitR n 2 (bitR n 1 .s0 .s1) (bitR n 1 .s2 .s3)) (bitR n 2 (bitR n 1 .s4 .s5) (bitR n 1 .s6 .s7))) (bitR n 4 (bitR n 2 (bitR n 1 .s8 .s9) (bitR n 1 .s10 .s11)) (bitR n 2 (bitR n 1 .s12 .s13) (bitR n 1 .s14 .s15))))

theorem land_mod (n k : Nat) (h : k ∈ [1, 2, 4, 8]) : Nat.land n k = Nat.land (n % 16) k := by
  show n &&& k = (n % 16) &&& k
  apply Nat.eq_of_testBit_eq
  intro i
  rw [Nat.testBit_and, Nat.testBit_and, show (16 : Nat) = 2 ^ 4 from rfl, Nat.testBit_mod_two_pow]
  by_cases hi : i < 4
  · simp [hi]
  · have : k.testBit i = false := by
      apply Nat.testBit_lt_two_pow
      have h16 : (2 : Nat) ^ 4 ≤ 2 ^ i := Nat.pow_le_pow_right (by omega) (by omega)
      simp only [List.mem_cons, List.not_mem_nil, or_false] at h
      rcases h with rfl | rfl | rfl | rfl <;> omega
    simp [this]

theorem toSel_mod (n : Nat) : toSel n = toSel (n % 16) := by
  unfold toSel bitR
  rw [land_mod n 8 (by simp), land_mod n 4 (by simp), land_mod n 2 (by simp), land_mod n 1 (by simp)]

theorem selNum_toSel (n : Nat) (h : n < 16) : selNum (toSel n) = n := by
  match n, h with
  | 0, _ => rfl
  | 1, _ => rfl
  | 2, _ => rfl
  | 3, _ => rfl
  | 4, _ => rfl
  | 5, _ => rfl
  | 6, _ => rfl
  | 7, _ => rfl
  | 8, _ => rfl
  | 9, _ => rfl
  | 10, _ => rfl
  | 11, _ => rfl
  | 12, _ => rfl
  | 13, _ => rfl
  | 14, _ => rfl
  | 15, _ => rfl
  | n + 16, h => omega

theorem toSel_inj (n m : Nat) : toSel n = toSel m ↔ n % 16 = m % 16 := by
  constructor
  · intro h
    rw [toSel_mod n, toSel_mod m] at h
    have h' := congrArg selNum h
    rwa [selNum_toSel _ (Nat.mod_lt _ (by omega)), selNum_toSel _ (Nat.mod_lt _ (by omega))] at h'
  · intro h
    rw [toSel_mod n, toSel_mod m, h]

/- two digits: a frame -/
abbrev TF (α : Type) := N16 (N16 (Option α))

def TF.lf {α : Type} (v : Option α) : TF α := N16.all (N16.all v)
noncomputable def TF.get {α : Type} (t : TF α) (n : Nat) : Option α := N16.get (N16.get t (toSel n)) (toSel (Nat.div n 16))
noncomputable def TF.set {α : Type} (t : TF α) (n : Nat) (v : α) : TF α := N16.set t (toSel n) (N16.set (N16.get t (toSel n)) (toSel (Nat.div n 16)) (some v))

theorem TF.get_lf {α : Type} (v : Option α) (n : Nat) : TF.get (TF.lf v) n = v := by
  unfold TF.get TF.lf; rw [N16.get_all, N16.get_all]

theorem TF.get_set {α : Type} (t : TF α) (n m : Nat) (v : α) : TF.get (TF.set t n v) m = if n % 256 = m % 256 then some v else TF.get t m := by
  unfold TF.get TF.set
  rw [N16.get_set]
  by_cases h0 : toSel n = toSel m
  · rw [if_pos h0, N16.get_set, h0]
    have h0' := (toSel_inj n m).1 h0
    by_cases h1 : toSel (Nat.div n 16) = toSel (Nat.div m 16)
    · have h1' : n / 16 % 16 = m / 16 % 16 := (toSel_inj _ _).1 h1
      rw [if_pos h1, if_pos (by omega)]
    · have h1' : ¬ n / 16 % 16 = m / 16 % 16 := fun h => h1 ((toSel_inj _ _).2 h)
      rw [if_neg h1, if_neg (by omega)]
  · have h0' : ¬ n % 16 = m % 16 := fun h => h0 ((toSel_inj _ _).2 h)
    rw [if_neg h0, if_neg (by omega)]

/- four digits: a memory -/
abbrev TM (α : Type) := N16 (N16 (TF α))

def TM.lf {α : Type} (v : Option α) : TM α := N16.all (N16.all (TF.lf v))
noncomputable def TM.get {α : Type} (t : TM α) (n : Nat) : Option α := TF.get (N16.get (N16.get t (toSel (Nat.div n 256))) (toSel (Nat.div n 4096))) n
noncomputable def TM.set {α : Type} (t : TM α) (n : Nat) (v : α) : TM α :=
  N16.set t (toSel (Nat.div n 256)) (N16.set (N16.get t (toSel (Nat.div n 256))) (toSel (Nat.div n 4096)) (TF.set (N16.get (N16.get t (toSel (Nat.div n 256))) (toSel (Nat.div n 4096))) n v))

theorem TM.get_lf {α : Type} (v : Option α) (n : Nat) : TM.get (TM.lf v) n = v := by
  unfold TM.get TM.lf; rw [N16.get_all, N16.get_all, TF.get_lf]

theorem TM.get_set {α : Type} (t : TM α) (n m : Nat) (v : α) : TM.get (TM.set t n v) m = if n % 65536 = m % 65536 then some v else TM.get t m := by
  unfold TM.get TM.set
  rw [N16.get_set]
  by_cases h0 : toSel (Nat.div n 256) = toSel (Nat.div m 256)
  · rw [if_pos h0, N16.get_set, h0]
    have h0' : n / 256 % 16 = m / 256 % 16 := (toSel_inj _ _).1 h0
    by_cases h1 : toSel (Nat.div n 4096) = toSel (Nat.div m 4096)
    · have h1' : n / 4096 % 16 = m / 4096 % 16 := (toSel_inj _ _).1 h1
      rw [if_pos h1, TF.get_set, h1]
      by_cases h2 : n % 256 = m % 256
      · rw [if_pos h2, if_pos (by omega)]
      · rw [if_neg h2, if_neg (by omega)]
    · have h1' : ¬ n / 4096 % 16 = m / 4096 % 16 := fun h => h1 ((toSel_inj _ _).2 h)
      rw [if_neg h1, if_neg (by omega)]
  · have h0' : ¬ n / 256 % 16 = m / 256 % 16 := fun h => h0 ((toSel_inj _ _).2 h)
    rw [if_neg h0, if_neg (by omega)]
end Go.Eng
