/- A queue's length and a number of calls as numbers that are not known, and what is known of them. -/
import Derived.Test.YtopofdjgfbimnaaGreatAwake
namespace Go.Proofs.YtopofdjgfbimnaaGreat
open Go Go.Eng
namespace QueueRow

/-- how many bytes the queue may have -/
def mN (q : Int) : Nat := (Int.emod q 100).toNat + 1

theorem mN_emod (q : Int) : ((mN q : Nat) : Int) = Int.emod q 100 + 1 := by
  have h := Int.emod_nonneg q (show (100 : Int) ≠ 0 by decide)
  have h' : Int.emod q 100 = q % 100 := rfl
  unfold mN
  rw [h']
  omega

theorem mN_le (q : Int) : 1 ≤ mN q ∧ mN q ≤ 100 := by
  have h := Int.emod_nonneg q (show (100 : Int) ≠ 0 by decide)
  have h2 := Int.emod_lt_of_pos q (show (0 : Int) < 100 by decide)
  have h' : Int.emod q 100 = q % 100 := rfl
  unfold mN
  rw [h']
  omega

def qv (q c : Int) : Nat → Value
  | 0 => .int .i64 q
  | 1 => .int .i64 c
  | 5 => .int .i64 (Int.emod q 100)
  | 6 => .int .i64 (mN q)
  | 7 => .int .i64 (Int.tmod q 100)
  | _ => .int .i64 0

theorem qv_int (q c : Int) (n : Nat) : ∃ k i, qv q c n = .int k i := by
  unfold qv
  split <;> exact ⟨_, _, rfl⟩

abbrev SVq (q c : Int) : SymV := ⟨qv q c, qv_int q c⟩

/-- a value at a queue of m bytes -/
def evq (m : Int) : Value → Option Value
  | .complex _ 5 _ => some (.int .i64 (m - 1))
  | .complex _ 6 _ => some (.int .i64 m)
  | .int k n => some (.int k n)
  | .bool b => some (.bool b)
  | _ => none

def veq1 : Value → Value → Bool
  | .int j a, .int k b => decide (j = k) && decide (a = b)
  | .bool a, .bool b => a == b
  | _, _ => false

theorem veq1_eq {x y : Value} (h : veq1 x y = true) : x = y := by
  unfold veq1 at h
  split at h
  · simp only [Bool.and_eq_true, decide_eq_true_eq] at h; rw [h.1, h.2]
  · have := eq_of_beq h; rw [this]
  · cases h

def ruleP (m : Int) : SRule → Bool
  | .bin op x y r => isSc x && isSc y && isScR r && (match evq m x, evq m y, evq m r with
    | some a, some b, some c => (match pureSem (binOp op 0 a b) with
      | some v => veq1 v c
      | none => false)
    | _, _, _ => false)
  | _ => false

theorem evq_den {q c : Int} {x a : Value} (h : evq (mN q) x = some a) : den (qv q c) x = a := by
  unfold evq at h
  split at h
  · cases h
    show qv q c 5 = _
    have := mN_emod q
    show Value.int .i64 (Int.emod q 100) = _
    congr 1
    omega
  · cases h; rfl
  · cases h; rfl
  · cases h; rfl
  · cases h

theorem evq_int {m : Int} {x a : Value} (hs : isSc x = true) (h : evq m x = some a) : ∃ k n, a = .int k n := by
  unfold evq at h
  split at h
  · cases h; exact ⟨_, _, rfl⟩
  · cases h; exact ⟨_, _, rfl⟩
  · cases h; exact ⟨_, _, rfl⟩
  · simp [isSc] at hs
  · cases h

theorem bin_t (op : BinOp) (t : TypeId) (k k' : IntKind) (a b : Int) : binOp op t (.int k a) (.int k' b) = binOp op 0 (.int k a) (.int k' b) := by
  cases op <;> rfl

theorem ruleP_good {q c : Int} {r : SRule} (h : ruleP (mN q) r = true) : r.good (qv q c) := by
  cases r with
  | bin op x y r =>
    simp only [ruleP, Bool.and_eq_true] at h
    obtain ⟨⟨⟨h1, h2⟩, h3⟩, h4⟩ := h
    split at h4
    · rename_i a b d ha hb hd
      split at h4
      · rename_i v hv
        have he := veq1_eq h4
        obtain ⟨k, n, rfl⟩ := evq_int h1 ha
        obtain ⟨k', n', rfl⟩ := evq_int h2 hb
        refine ⟨h1, h2, h3, fun t => ?_⟩
        rw [evq_den ha, evq_den hb, evq_den hd, bin_t, hv, he]
      · cases h4
    · cases h4
  | conv _ _ _ => simp [ruleP] at h
  | un _ _ _ => simp [ruleP] at h

theorem all_good {q c : Int} {l : List SRule} (h : l.all (ruleP (mN q)) = true) : ∀ r ∈ l, r.good (qv q c) :=
  fun r hr => ruleP_good (List.all_eq_true.1 h r hr)

/-- a test at every queue of a kind -/
def chk (kf : Nat → Nat) (k : Nat) (p : Int → Bool) : Bool := (List.range 100).all fun i => !(Nat.beq (kf (i + 1)) k) || p ((i + 1 : Nat) : Int)

theorem chk_at {kf : Nat → Nat} {k : Nat} {p : Int → Bool} (h : chk kf k p = true) {q : Int} (hk : kf (mN q) = k) : p (mN q) = true := by
  obtain ⟨h1, h2⟩ := mN_le q
  have := List.all_eq_true.1 h (mN q - 1) (by simp; omega)
  rw [show mN q - 1 + 1 = mN q by omega, hk, Nat.beq_refl] at this
  simpa using this

/-- how many refusals fit, at most eight are asked -/
def kR (m : Nat) : Nat := Nat.min 8 (m / 10)
/-- how many replies fit -/
def kN (m : Nat) : Nat := m / 14

theorem good_rem1 {q c r : Int} (h : Int.tmod c 8 = r) : (SRule.bin .rem (sv 1) (.int .i64 8) (.int .i64 r)).good (qv q c) := by
  refine ⟨rfl, rfl, rfl, fun t => ?_⟩
  rw [← h]
  rfl

theorem tmod8 (c : Int) : Int.tmod c 8 = Int.emod c 8 ∨ (Int.tmod c 8 = Int.emod c 8 - 8 ∧ Int.emod c 8 ≠ 0) := by
  have h' : Int.emod c 8 = c % 8 := rfl
  rw [h']
  rcases Int.le_total 0 c with h | h
  · left; exact Int.tmod_eq_emod_of_nonneg h
  · have h1 : Int.tmod (-c) 8 = -(Int.tmod c 8) := Int.neg_tmod c 8
    have h2 : Int.tmod (-c) 8 = (-c) % 8 := Int.tmod_eq_emod_of_nonneg (by omega)
    omega

theorem tmod100 (c : Int) : Int.tmod c 100 = Int.emod c 100 ∨ (Int.tmod c 100 = Int.emod c 100 - 100 ∧ Int.emod c 100 ≠ 0) := by
  have h' : Int.emod c 100 = c % 100 := rfl
  rw [h']
  rcases Int.le_total 0 c with h | h
  · left; exact Int.tmod_eq_emod_of_nonneg h
  · have h1 : Int.tmod (-c) 100 = -(Int.tmod c 100) := Int.neg_tmod c 100
    have h2 : Int.tmod (-c) 100 = (-c) % 100 := Int.tmod_eq_emod_of_nonneg (by omega)
    omega

theorem of_run {q c : Int} {T : List SRule} (ok : ∀ r ∈ T, r.good (qv q c)) {args : List Value} {v : Value} {m : LMem}
    (h : ∀ ok, @callFF (SVq q c) (@SymT.mk (SVq q c) T ok) Tryz.prog ⟨506, 508, 376⟩ (fun _ => none) 1000 5 23 args m = some (v, m)) (hw : WF m) : @SC (SVq q c) Tryz.prog 23 args m v m := by
  letI SV : SymV := SVq q c
  letI ST : SymT := ⟨T, ok⟩
  have h' := h ok
  rw [callFF_eq] at h'
  exact call_sound pok (noPrim _) 1000 5 23 args m v m h' hw

theorem modQp (q c : Int) (ok : ∀ r ∈ [SRule.bin .rem (sv 0) (.int .i64 100) (sv 5), .bin .lss (sv 5) (.int .i64 0) (.bool false)], r.good (qv q c)) (m : LMem) : @callFF (SVq q c) (@SymT.mk (SVq q c) [SRule.bin .rem (sv 0) (.int .i64 100) (sv 5), .bin .lss (sv 5) (.int .i64 0) (.bool false)] ok) Tryz.prog ⟨506, 508, 376⟩ (fun _ => none) 1000 5 23 [sv 0, .int .i64 100] m = some (sv 5, m) := by kernel_rfl
theorem modQn (q c : Int) (ok : ∀ r ∈ [SRule.bin .rem (sv 0) (.int .i64 100) (sv 7), .bin .lss (sv 7) (.int .i64 0) (.bool true), .bin .add (sv 7) (.int .i64 100) (sv 5)], r.good (qv q c)) (m : LMem) : @callFF (SVq q c) (@SymT.mk (SVq q c) [SRule.bin .rem (sv 0) (.int .i64 100) (sv 7), .bin .lss (sv 7) (.int .i64 0) (.bool true), .bin .add (sv 7) (.int .i64 100) (sv 5)] ok) Tryz.prog ⟨506, 508, 376⟩ (fun _ => none) 1000 5 23 [sv 0, .int .i64 100] m = some (sv 5, m) := by kernel_rfl

theorem modQ (q c : Int) (m : LMem) (hw : WF m) : @SC (SVq q c) Tryz.prog 23 [sv 0, .int .i64 100] m (sv 5) m := by
  have hn := Int.emod_nonneg q (show (100 : Int) ≠ 0 by decide)
  have hl := Int.emod_lt_of_pos q (show (0 : Int) < 100 by decide)
  have h' : Int.emod q 100 = q % 100 := rfl
  rcases tmod100 q with h | ⟨h, _⟩
  · refine of_run (T := [SRule.bin .rem (sv 0) (.int .i64 100) (sv 5), .bin .lss (sv 5) (.int .i64 0) (.bool false)]) (fun r hr => ?_) (fun ok => modQp q c ok m) hw
    simp only [List.mem_cons, List.not_mem_nil, or_false] at hr
    rcases hr with rfl | rfl
    · refine ⟨rfl, rfl, rfl, fun t => ?_⟩
      show pureSem (binOp .rem t (.int .i64 q) (.int .i64 100)) = some (.int .i64 (Int.emod q 100))
      rw [← h]; rfl
    · refine ⟨rfl, rfl, rfl, fun t => ?_⟩
      show some (Value.bool (decide (Int.emod q 100 < 0))) = some (.bool false)
      rw [h', decide_eq_false (by omega)]
  · refine of_run (T := [SRule.bin .rem (sv 0) (.int .i64 100) (sv 7), .bin .lss (sv 7) (.int .i64 0) (.bool true), .bin .add (sv 7) (.int .i64 100) (sv 5)]) (fun r hr => ?_) (fun ok => modQn q c ok m) hw
    simp only [List.mem_cons, List.not_mem_nil, or_false] at hr
    rcases hr with rfl | rfl | rfl
    · exact ⟨rfl, rfl, rfl, fun t => rfl⟩
    · refine ⟨rfl, rfl, rfl, fun t => ?_⟩
      show some (Value.bool (decide (Int.tmod q 100 < 0))) = some (.bool true)
      rw [h, h', decide_eq_true (by omega)]
    · refine ⟨rfl, rfl, rfl, fun t => ?_⟩
      show some (Value.int .i64 (IntKind.i64.wrap (Int.tmod q 100 + 100))) = some (.int .i64 (Int.emod q 100))
      rw [h, show Int.emod q 100 - 100 + 100 = Int.emod q 100 by omega]
      have hw' : IntKind.i64.wrap (((Int.emod q 100).toNat : Nat) : Int) = (((Int.emod q 100).toNat : Nat) : Int) := wrap_lim (by rw [h']; show (q % 100).toNat < 9223372036854775808; omega)
      rw [show Int.emod q 100 = (((Int.emod q 100).toNat : Nat) : Int) by rw [h']; omega, hw']

theorem modC0p (q c : Int) (ok : ∀ r ∈ [SRule.bin .rem (sv 1) (.int .i64 8) (.int .i64 0)], r.good (qv q c)) (m : LMem) : @callFF (SVq q c) (@SymT.mk (SVq q c) [SRule.bin .rem (sv 1) (.int .i64 8) (.int .i64 0)] ok) Tryz.prog ⟨506, 508, 376⟩ (fun _ => none) 1000 5 23 [sv 1, .int .i64 8] m = some (.int .i64 0, m) := by kernel_rfl
theorem modC1p (q c : Int) (ok : ∀ r ∈ [SRule.bin .rem (sv 1) (.int .i64 8) (.int .i64 1)], r.good (qv q c)) (m : LMem) : @callFF (SVq q c) (@SymT.mk (SVq q c) [SRule.bin .rem (sv 1) (.int .i64 8) (.int .i64 1)] ok) Tryz.prog ⟨506, 508, 376⟩ (fun _ => none) 1000 5 23 [sv 1, .int .i64 8] m = some (.int .i64 1, m) := by kernel_rfl
theorem modC1n (q c : Int) (ok : ∀ r ∈ [SRule.bin .rem (sv 1) (.int .i64 8) (.int .i64 (-7))], r.good (qv q c)) (m : LMem) : @callFF (SVq q c) (@SymT.mk (SVq q c) [SRule.bin .rem (sv 1) (.int .i64 8) (.int .i64 (-7))] ok) Tryz.prog ⟨506, 508, 376⟩ (fun _ => none) 1000 5 23 [sv 1, .int .i64 8] m = some (.int .i64 1, m) := by kernel_rfl
theorem modC2p (q c : Int) (ok : ∀ r ∈ [SRule.bin .rem (sv 1) (.int .i64 8) (.int .i64 2)], r.good (qv q c)) (m : LMem) : @callFF (SVq q c) (@SymT.mk (SVq q c) [SRule.bin .rem (sv 1) (.int .i64 8) (.int .i64 2)] ok) Tryz.prog ⟨506, 508, 376⟩ (fun _ => none) 1000 5 23 [sv 1, .int .i64 8] m = some (.int .i64 2, m) := by kernel_rfl
theorem modC2n (q c : Int) (ok : ∀ r ∈ [SRule.bin .rem (sv 1) (.int .i64 8) (.int .i64 (-6))], r.good (qv q c)) (m : LMem) : @callFF (SVq q c) (@SymT.mk (SVq q c) [SRule.bin .rem (sv 1) (.int .i64 8) (.int .i64 (-6))] ok) Tryz.prog ⟨506, 508, 376⟩ (fun _ => none) 1000 5 23 [sv 1, .int .i64 8] m = some (.int .i64 2, m) := by kernel_rfl
theorem modC3p (q c : Int) (ok : ∀ r ∈ [SRule.bin .rem (sv 1) (.int .i64 8) (.int .i64 3)], r.good (qv q c)) (m : LMem) : @callFF (SVq q c) (@SymT.mk (SVq q c) [SRule.bin .rem (sv 1) (.int .i64 8) (.int .i64 3)] ok) Tryz.prog ⟨506, 508, 376⟩ (fun _ => none) 1000 5 23 [sv 1, .int .i64 8] m = some (.int .i64 3, m) := by kernel_rfl
theorem modC3n (q c : Int) (ok : ∀ r ∈ [SRule.bin .rem (sv 1) (.int .i64 8) (.int .i64 (-5))], r.good (qv q c)) (m : LMem) : @callFF (SVq q c) (@SymT.mk (SVq q c) [SRule.bin .rem (sv 1) (.int .i64 8) (.int .i64 (-5))] ok) Tryz.prog ⟨506, 508, 376⟩ (fun _ => none) 1000 5 23 [sv 1, .int .i64 8] m = some (.int .i64 3, m) := by kernel_rfl
theorem modC4p (q c : Int) (ok : ∀ r ∈ [SRule.bin .rem (sv 1) (.int .i64 8) (.int .i64 4)], r.good (qv q c)) (m : LMem) : @callFF (SVq q c) (@SymT.mk (SVq q c) [SRule.bin .rem (sv 1) (.int .i64 8) (.int .i64 4)] ok) Tryz.prog ⟨506, 508, 376⟩ (fun _ => none) 1000 5 23 [sv 1, .int .i64 8] m = some (.int .i64 4, m) := by kernel_rfl
theorem modC4n (q c : Int) (ok : ∀ r ∈ [SRule.bin .rem (sv 1) (.int .i64 8) (.int .i64 (-4))], r.good (qv q c)) (m : LMem) : @callFF (SVq q c) (@SymT.mk (SVq q c) [SRule.bin .rem (sv 1) (.int .i64 8) (.int .i64 (-4))] ok) Tryz.prog ⟨506, 508, 376⟩ (fun _ => none) 1000 5 23 [sv 1, .int .i64 8] m = some (.int .i64 4, m) := by kernel_rfl
theorem modC5p (q c : Int) (ok : ∀ r ∈ [SRule.bin .rem (sv 1) (.int .i64 8) (.int .i64 5)], r.good (qv q c)) (m : LMem) : @callFF (SVq q c) (@SymT.mk (SVq q c) [SRule.bin .rem (sv 1) (.int .i64 8) (.int .i64 5)] ok) Tryz.prog ⟨506, 508, 376⟩ (fun _ => none) 1000 5 23 [sv 1, .int .i64 8] m = some (.int .i64 5, m) := by kernel_rfl
theorem modC5n (q c : Int) (ok : ∀ r ∈ [SRule.bin .rem (sv 1) (.int .i64 8) (.int .i64 (-3))], r.good (qv q c)) (m : LMem) : @callFF (SVq q c) (@SymT.mk (SVq q c) [SRule.bin .rem (sv 1) (.int .i64 8) (.int .i64 (-3))] ok) Tryz.prog ⟨506, 508, 376⟩ (fun _ => none) 1000 5 23 [sv 1, .int .i64 8] m = some (.int .i64 5, m) := by kernel_rfl
theorem modC6p (q c : Int) (ok : ∀ r ∈ [SRule.bin .rem (sv 1) (.int .i64 8) (.int .i64 6)], r.good (qv q c)) (m : LMem) : @callFF (SVq q c) (@SymT.mk (SVq q c) [SRule.bin .rem (sv 1) (.int .i64 8) (.int .i64 6)] ok) Tryz.prog ⟨506, 508, 376⟩ (fun _ => none) 1000 5 23 [sv 1, .int .i64 8] m = some (.int .i64 6, m) := by kernel_rfl
theorem modC6n (q c : Int) (ok : ∀ r ∈ [SRule.bin .rem (sv 1) (.int .i64 8) (.int .i64 (-2))], r.good (qv q c)) (m : LMem) : @callFF (SVq q c) (@SymT.mk (SVq q c) [SRule.bin .rem (sv 1) (.int .i64 8) (.int .i64 (-2))] ok) Tryz.prog ⟨506, 508, 376⟩ (fun _ => none) 1000 5 23 [sv 1, .int .i64 8] m = some (.int .i64 6, m) := by kernel_rfl
theorem modC7p (q c : Int) (ok : ∀ r ∈ [SRule.bin .rem (sv 1) (.int .i64 8) (.int .i64 7)], r.good (qv q c)) (m : LMem) : @callFF (SVq q c) (@SymT.mk (SVq q c) [SRule.bin .rem (sv 1) (.int .i64 8) (.int .i64 7)] ok) Tryz.prog ⟨506, 508, 376⟩ (fun _ => none) 1000 5 23 [sv 1, .int .i64 8] m = some (.int .i64 7, m) := by kernel_rfl
theorem modC7n (q c : Int) (ok : ∀ r ∈ [SRule.bin .rem (sv 1) (.int .i64 8) (.int .i64 (-1))], r.good (qv q c)) (m : LMem) : @callFF (SVq q c) (@SymT.mk (SVq q c) [SRule.bin .rem (sv 1) (.int .i64 8) (.int .i64 (-1))] ok) Tryz.prog ⟨506, 508, 376⟩ (fun _ => none) 1000 5 23 [sv 1, .int .i64 8] m = some (.int .i64 7, m) := by kernel_rfl

theorem modC0 (q c : Int) (hc : Int.emod c 8 = 0) (m : LMem) (hw : WF m) : @SC (SVq q c) Tryz.prog 23 [sv 1, .int .i64 8] m (.int .i64 0) m := by
  letI SV : SymV := SVq q c
  have hb := tmod8 c
  have h0 : Int.tmod c 8 = 0 := by
    rcases hb with h | ⟨_, h⟩
    · rw [h, hc]
    · exact absurd hc h
  exact of_run (T := [SRule.bin .rem (sv 1) (.int .i64 8) (.int .i64 0)]) (fun r hr => by
    simp only [List.mem_singleton] at hr; subst hr; exact good_rem1 h0) (fun ok => modC0p q c ok m) hw
theorem modC1 (q c : Int) (hc : Int.emod c 8 = 1) (m : LMem) (hw : WF m) : @SC (SVq q c) Tryz.prog 23 [sv 1, .int .i64 8] m (.int .i64 1) m := by
  letI SV : SymV := SVq q c
  have hb := tmod8 c
  rcases hb with h | ⟨h, _⟩
  · exact of_run (T := [SRule.bin .rem (sv 1) (.int .i64 8) (.int .i64 1)]) (fun r hr => by
      simp only [List.mem_singleton] at hr; subst hr; exact good_rem1 (by rw [h, hc])) (fun ok => modC1p q c ok m) hw
  · exact of_run (T := [SRule.bin .rem (sv 1) (.int .i64 8) (.int .i64 (-7))]) (fun r hr => by
      simp only [List.mem_singleton] at hr; subst hr; exact good_rem1 (by rw [h, hc]; rfl)) (fun ok => modC1n q c ok m) hw
theorem modC2 (q c : Int) (hc : Int.emod c 8 = 2) (m : LMem) (hw : WF m) : @SC (SVq q c) Tryz.prog 23 [sv 1, .int .i64 8] m (.int .i64 2) m := by
  letI SV : SymV := SVq q c
  have hb := tmod8 c
  rcases hb with h | ⟨h, _⟩
  · exact of_run (T := [SRule.bin .rem (sv 1) (.int .i64 8) (.int .i64 2)]) (fun r hr => by
      simp only [List.mem_singleton] at hr; subst hr; exact good_rem1 (by rw [h, hc])) (fun ok => modC2p q c ok m) hw
  · exact of_run (T := [SRule.bin .rem (sv 1) (.int .i64 8) (.int .i64 (-6))]) (fun r hr => by
      simp only [List.mem_singleton] at hr; subst hr; exact good_rem1 (by rw [h, hc]; rfl)) (fun ok => modC2n q c ok m) hw
theorem modC3 (q c : Int) (hc : Int.emod c 8 = 3) (m : LMem) (hw : WF m) : @SC (SVq q c) Tryz.prog 23 [sv 1, .int .i64 8] m (.int .i64 3) m := by
  letI SV : SymV := SVq q c
  have hb := tmod8 c
  rcases hb with h | ⟨h, _⟩
  · exact of_run (T := [SRule.bin .rem (sv 1) (.int .i64 8) (.int .i64 3)]) (fun r hr => by
      simp only [List.mem_singleton] at hr; subst hr; exact good_rem1 (by rw [h, hc])) (fun ok => modC3p q c ok m) hw
  · exact of_run (T := [SRule.bin .rem (sv 1) (.int .i64 8) (.int .i64 (-5))]) (fun r hr => by
      simp only [List.mem_singleton] at hr; subst hr; exact good_rem1 (by rw [h, hc]; rfl)) (fun ok => modC3n q c ok m) hw
theorem modC4 (q c : Int) (hc : Int.emod c 8 = 4) (m : LMem) (hw : WF m) : @SC (SVq q c) Tryz.prog 23 [sv 1, .int .i64 8] m (.int .i64 4) m := by
  letI SV : SymV := SVq q c
  have hb := tmod8 c
  rcases hb with h | ⟨h, _⟩
  · exact of_run (T := [SRule.bin .rem (sv 1) (.int .i64 8) (.int .i64 4)]) (fun r hr => by
      simp only [List.mem_singleton] at hr; subst hr; exact good_rem1 (by rw [h, hc])) (fun ok => modC4p q c ok m) hw
  · exact of_run (T := [SRule.bin .rem (sv 1) (.int .i64 8) (.int .i64 (-4))]) (fun r hr => by
      simp only [List.mem_singleton] at hr; subst hr; exact good_rem1 (by rw [h, hc]; rfl)) (fun ok => modC4n q c ok m) hw
theorem modC5 (q c : Int) (hc : Int.emod c 8 = 5) (m : LMem) (hw : WF m) : @SC (SVq q c) Tryz.prog 23 [sv 1, .int .i64 8] m (.int .i64 5) m := by
  letI SV : SymV := SVq q c
  have hb := tmod8 c
  rcases hb with h | ⟨h, _⟩
  · exact of_run (T := [SRule.bin .rem (sv 1) (.int .i64 8) (.int .i64 5)]) (fun r hr => by
      simp only [List.mem_singleton] at hr; subst hr; exact good_rem1 (by rw [h, hc])) (fun ok => modC5p q c ok m) hw
  · exact of_run (T := [SRule.bin .rem (sv 1) (.int .i64 8) (.int .i64 (-3))]) (fun r hr => by
      simp only [List.mem_singleton] at hr; subst hr; exact good_rem1 (by rw [h, hc]; rfl)) (fun ok => modC5n q c ok m) hw
theorem modC6 (q c : Int) (hc : Int.emod c 8 = 6) (m : LMem) (hw : WF m) : @SC (SVq q c) Tryz.prog 23 [sv 1, .int .i64 8] m (.int .i64 6) m := by
  letI SV : SymV := SVq q c
  have hb := tmod8 c
  rcases hb with h | ⟨h, _⟩
  · exact of_run (T := [SRule.bin .rem (sv 1) (.int .i64 8) (.int .i64 6)]) (fun r hr => by
      simp only [List.mem_singleton] at hr; subst hr; exact good_rem1 (by rw [h, hc])) (fun ok => modC6p q c ok m) hw
  · exact of_run (T := [SRule.bin .rem (sv 1) (.int .i64 8) (.int .i64 (-2))]) (fun r hr => by
      simp only [List.mem_singleton] at hr; subst hr; exact good_rem1 (by rw [h, hc]; rfl)) (fun ok => modC6n q c ok m) hw
theorem modC7 (q c : Int) (hc : Int.emod c 8 = 7) (m : LMem) (hw : WF m) : @SC (SVq q c) Tryz.prog 23 [sv 1, .int .i64 8] m (.int .i64 7) m := by
  letI SV : SymV := SVq q c
  have hb := tmod8 c
  rcases hb with h | ⟨h, _⟩
  · exact of_run (T := [SRule.bin .rem (sv 1) (.int .i64 8) (.int .i64 7)]) (fun r hr => by
      simp only [List.mem_singleton] at hr; subst hr; exact good_rem1 (by rw [h, hc])) (fun ok => modC7p q c ok m) hw
  · exact of_run (T := [SRule.bin .rem (sv 1) (.int .i64 8) (.int .i64 (-1))]) (fun r hr => by
      simp only [List.mem_singleton] at hr; subst hr; exact good_rem1 (by rw [h, hc]; rfl)) (fun ok => modC7n q c ok m) hw

/-- n modulo 100 and modulo 8 -/
noncomputable def modPrim (r : Int) : PrimT := fun g => bif Nat.beq g 23 then some (fun args m => match args with
  | [.complex _ n _, .int .i64 b] => bif Nat.beq n 0 && decide (b = 100) then some (sv 5, m) else bif Nat.beq n 1 && decide (b = 8) then some (.int .i64 r, m) else none
  | _ => none) else none

theorem modPrim_ok (q c r : Int) (hr : ∀ m, WF m → @SC (SVq q c) Tryz.prog 23 [sv 1, .int .i64 8] m (.int .i64 r) m) : @PrimOK (SVq q c) Tryz.prog (modPrim r) := by
  letI SV : SymV := SVq q c
  intro g p h args m v m' hp hw
  unfold modPrim at h
  cases hg : Nat.beq g 23 with
  | false => rw [hg] at h; cases h
  | true =>
    rw [hg] at h
    simp only [cond_true, Option.some.injEq] at h
    subst h
    have hg' := Nat.eq_of_beq_eq_true hg
    subst hg'
    dsimp only at hp
    split at hp
    · rename_i fk n mm b
      have hre : ∀ {φ : Phi} {args' : List Value}, VRL φ [.complex fk n mm, .int .i64 b] args' → VRL φ [sv n, .int .i64 b] args' := by
        intro φ args' hv
        cases hv with
        | cons _ y _ ys h1 h2 =>
          cases h1 with
          | sym _ _ _ _ hy => exact .cons _ _ _ _ (.sym _ _ _ _ hy) h2
      cases h1 : (Nat.beq n 0 && decide (b = 100)) with
      | true =>
        simp only [h1, cond_true, Option.some.injEq, Prod.mk.injEq] at hp
        obtain ⟨rfl, rfl⟩ := hp
        simp only [Bool.and_eq_true, decide_eq_true_eq] at h1
        obtain ⟨hn, rfl⟩ := h1
        have hn := Nat.eq_of_beq_eq_true hn
        subst hn
        obtain ⟨s1, s2⟩ := modQ q c m hw
        exact ⟨s1, fun φ w args' hm hb hv => s2 φ w args' hm hb (hre hv)⟩
      | false =>
        simp only [h1, cond_false] at hp
        cases h2 : (Nat.beq n 1 && decide (b = 8)) with
        | true =>
          simp only [h2, cond_true, Option.some.injEq, Prod.mk.injEq] at hp
          obtain ⟨rfl, rfl⟩ := hp
          simp only [Bool.and_eq_true, decide_eq_true_eq] at h2
          obtain ⟨hn, rfl⟩ := h2
          have hn := Nat.eq_of_beq_eq_true hn
          subst hn
          obtain ⟨s1, s2⟩ := hr m hw
          exact ⟨s1, fun φ w args' hm hb hv => s2 φ w args' hm hb (hre hv)⟩
        | false => simp [h2] at hp
    · cases hp

def b8 (n : Nat) : Value := .int .u8 (.ofNat n)
def fb : Value := .bool false
def tr : Value := .bool true
def z0 : Value := iv 0
def pt (b o : Nat) : Value := .pointer (some ⟨b, o, none⟩)
def sn : Value := .slice none 0 0

noncomputable def primsG [SymV] [SymT] : PrimT := primOr (keysPrim1 Tryz.prog ⟨506, 508, 376⟩ 350 293 0) (primOr (keysPrim1 Tryz.prog ⟨506, 508, 376⟩ 14 49 12) (deferPrim Tryz.prog ⟨506, 508, 376⟩ [106]))
theorem primsG_ok [SymV] [SymT] : PrimOK Tryz.prog primsG :=
  primOr_ok (keysPrim1_ok pok Tryz.underlying3 keysFnA) (primOr_ok (keysPrim1_ok pok Tryz.underlying3 keysFnB) (deferPrim_ok pok [106]))
end QueueRow
end Go.Proofs.YtopofdjgfbimnaaGreat
