/- Arguments as numbers that are not known: the cells of arguments by their places. -/
import Derived.Test.YtopofdjgfbimnaaGreatEngV
namespace Go.Eng

def sv (n : Nat) : Value := .complex .f64 n 0

/-- the number at a place -/
def cellVal (cs : List Value) (i : Nat) : Value :=
  match cs[i]? with
  | some (.int k n) => .int k n
  | _ => .int .i64 0

theorem cellVal_int (cs : List Value) (i : Nat) : ∃ k n, cellVal cs i = .int k n := by
  unfold cellVal
  split
  · exact ⟨_, _, rfl⟩
  · exact ⟨_, _, rfl⟩

theorem cellVal_at {cs : List Value} {i : Nat} {k : IntKind} {n : Int} (h : cs[i]? = some (.int k n)) : cellVal cs i = .int k n := by
  unfold cellVal; rw [h]

theorem cellVal_skip {a b : List Value} {n : Nat} (h : a.length = n) (i : Nat) : cellVal (a ++ b) (n + i) = cellVal b i := by
  unfold cellVal
  rw [List.getElem?_append_right (by omega), show n + i - a.length = i by omega]

theorem cellVal_here {a b : List Value} {i : Nat} {k : IntKind} {n : Int} (h : a[i]? = some (.int k n)) : cellVal (a ++ b) i = .int k n := by
  have hlt : i < a.length := by
    rcases Nat.lt_or_ge i a.length with h' | h'
    · exact h'
    · rw [List.getElem?_eq_none h'] at h; cases h
  exact cellVal_at (by rw [List.getElem?_append_left hlt]; exact h)

/-- the logical cells: the integer at a place is the number of that place -/
def lmkP : List Sh → Nat → (Nat → Bool) → List (Option (Nat × Nat)) → List Value
  | [], _, _, _ => []
  | .int _ :: r, p, b, sl => sv p :: lmkP r (p + 1) b sl
  | .bool :: r, p, b, sl => .bool (b 0) :: lmkP r (p + 1) (fun i => b (i + 1)) sl
  | .slice :: r, p, b, sl => match sl with
    | [] => []
    | none :: sl => .slice none 0 0 :: lmkP r (p + 1) b sl
    | some (len, cap) :: sl => .slice (some ⟨0, 0, none⟩) len cap :: lmkP r (p + 1) b sl

theorem fits_sym [SymV] [SymT] {φ : Phi} (hφ : φ 0 = some none) {l : List Sh} {vs : List Value} (h : FitsL l vs) : ∀ (p : Nat), (∀ (i : Nat) (k : IntKind) (n : Int), vs[i]? = some (.int k n) → SymV.val (p + i) = .int k n) →
    ∃ b sl, sl.length = slices l ∧ (∀ x ∈ sl, ∀ y, x = some y → y.1 ≤ y.2) ∧ VRL φ (lmkP l p b sl) vs := by
  induction h with
  | nil => exact fun _ _ => ⟨fun _ => false, [], rfl, by simp, .nil⟩
  | cons s v l vs h1 _ ih =>
    intro p hv
    obtain ⟨b, sl, i1, i2, i3⟩ := ih (p + 1) fun i k n hi => by
      have := hv (i + 1) k n (by simpa using hi)
      rw [show p + 1 + i = p + (i + 1) by omega]; exact this
    cases s with
    | int k =>
      obtain ⟨x, rfl⟩ := h1
      exact ⟨b, sl, i1, i2, .cons _ _ _ _ (.sym _ _ _ _ (hv 0 k x (by simp)).symm) i3⟩
    | bool =>
      obtain ⟨x, rfl⟩ := h1
      exact ⟨fun i => Nat.casesOn i x b, sl, i1, i2, .cons _ _ _ _ (.bool x) i3⟩
    | slice =>
      rcases h1 with rfl | ⟨a, len, cap, rfl, hle⟩
      · exact ⟨b, none :: sl, by simp [slices, i1], by
          intro x hx y hy
          rcases List.mem_cons.1 hx with rfl | hx
          · cases hy
          · exact i2 x hx y hy, .cons _ _ _ _ (.snil 0 0) i3⟩
      · exact ⟨b, some (len, cap) :: sl, by simp [slices, i1], by
          intro x hx y hy
          rcases List.mem_cons.1 hx with rfl | hx
          · cases hy; exact hle
          · exact i2 x hx y hy, .cons _ _ _ _ (.sdead 0 0 none len cap cap a hφ hle (Nat.le_refl _) fun _ => rfl) i3⟩

/-- a slice that no run looks into -/
def lsl : Option (Nat × Nat) → Value
  | none => .slice none 0 0
  | some (len, cap) => .slice (some ⟨0, 0, none⟩) len cap

theorem lsl_of [SymV] {φ : Phi} (hφ : φ 0 = some none) {v : Value} (h : Fits1 .slice v) : ∃ x, VR φ (lsl x) v := by
  rcases h with rfl | ⟨a, len, cap, rfl, hle⟩
  · exact ⟨none, .snil 0 0⟩
  · exact ⟨some (len, cap), .sdead 0 0 none len cap cap a hφ hle (Nat.le_refl _) fun _ => rfl⟩

theorem fits1_slice {P : Program} {w : World} {r : Reach} {base : Nat} {t : TypeId} {v : Value} (hu : ∃ e, P.underlying t = some (.slice e)) (h : Value.okWide P w r base t v) : Fits1 .slice v := by
  obtain ⟨e, hu⟩ := hu
  simp only [Value.okWide, hu] at h
  exact fits1_of (t := t) (by simp [shOf, hu]) h

theorem good_self {val : Nat → Value} (hi : ∀ n, ∃ k i, val n = .int k i) (i : Nat) : (SRule.bin .eql (sv i) (sv i) (.bool true)).good val := by
  refine ⟨rfl, rfl, rfl, fun t => ?_⟩
  show pureSem (binOp .eql t (val i) (val i)) = _
  obtain ⟨k, a, h⟩ := hi i
  rw [h]
  simp [binOp, Op.intCmp, pureSem, Pure.pure]
  rfl

theorem good_geq {val : Nat → Value} {i : Nat} {n m : Int} (h : val i = .int .i64 n) : (SRule.bin .geq (sv i) (.int .i64 m) (.bool (decide (n ≥ m)))).good val := by
  refine ⟨rfl, rfl, rfl, fun t => ?_⟩
  show pureSem (binOp .geq t (val i) _) = _
  rw [h]; rfl

theorem good_leq {val : Nat → Value} {i : Nat} {n m : Int} (h : val i = .int .i64 n) : (SRule.bin .leq (sv i) (.int .i64 m) (.bool (decide (n ≤ m)))).good val := by
  refine ⟨rfl, rfl, rfl, fun t => ?_⟩
  show pureSem (binOp .leq t (val i) _) = _
  rw [h]; rfl

theorem FitsL.length {l : List Sh} {vs : List Value} (h : FitsL l vs) : vs.length = l.length := by
  induction h with
  | nil => rfl
  | cons s v l vs _ _ ih => simp [ih]

/-- comparisons of a number that is not known -/
theorem good_cmp {val : Nat → Value} {op : BinOp} {x y : Value} {k : IntKind} {a b : Int} {r : Bool} (hx : isSc x = true) (hy : isSc y = true) (dx : den val x = .int k a) (dy : den val y = .int k b)
    (h : ∀ t, pureSem (binOp op t (.int k a) (.int k b)) = some (.bool r)) : (SRule.bin op x y (.bool r)).good val :=
  ⟨hx, hy, rfl, fun t => by rw [dx, dy]; exact h t⟩

end Go.Eng
