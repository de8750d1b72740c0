/- What the program's and the reference's CheckSetup answer, for every setup: the numbers' absolute values first. -/
import Derived.Test.YtogdmfknfkcjdaaGreatEngR3
import Derived.Test.YtogdmfknfkcjdaaGreatPokP
import Derived.IntWalk
namespace Go.Proofs.YtogdmfknfkcjdaaGreat
open Go Go.Eng Go.RowKit

theorem ffSound [SymV] [SymT] {prim : PrimT} (hp : PrimOK Tryz.prog prim) (fuel n : Nat) : CallSound Tryz.prog (callFF Tryz.prog ⟨552, 554, 386⟩ prim fuel n) := fun g args m v m' h hw => by
  rw [callFF_eq] at h
  exact call_sound pok hp fuel n g args m v m' h hw

def absI (x : Int) : Int := if cmpB .gtr (IntKind.i64.wrap (0 - x)) x = true then IntKind.i64.wrap (0 - x) else x

theorem absI_spec (x : Int) (h : -9223372036854775808 < x ∧ x ≤ 9223372036854775807) : (0 ≤ x ∧ absI x = x) ∨ (x < 0 ∧ absI x = -x) := by
  have hw : IntKind.i64.wrap (0 - x) = -x := by
    have := IntWalk.i64_in (0 - x) ⟨by omega, by omega⟩
    omega
  unfold absI
  rw [hw]
  simp only [cmpB, decide_eq_true_eq]
  rcases Int.lt_or_le x 0 with h0 | h0
  · exact .inr ⟨h0, by rw [if_pos (by omega)]⟩
  · exact .inl ⟨h0, by rw [if_neg (by omega)]⟩

def tabA (b : Bool) : List SRule := [.bin .eql (sv 0) (.int .i64 (-9223372036854775808)) (.bool false), .un .neg (sv 0) (sv 1), .bin .gtr (sv 1) (sv 0) (.bool b)]
theorem absR_true_true (val : Nat → Value) (hi : ∀ n, isOneV (val n) = true) (ok : ∀ r ∈ tabA true, r.good val) : isVal (@callFF (.plain val hi) (@SymT.mk (.plain val hi) (tabA true) ok) Tryz.prog ⟨552, 554, 386⟩ (fun _ => none) 100000 100 251 [.agg ⟨[sv 0, .bool true]⟩] (mem 1 memS)) (.agg ⟨[sv 1, .bool true]⟩) = true := by kernel_rfl
theorem absR_true_false (val : Nat → Value) (hi : ∀ n, isOneV (val n) = true) (ok : ∀ r ∈ tabA true, r.good val) : isVal (@callFF (.plain val hi) (@SymT.mk (.plain val hi) (tabA true) ok) Tryz.prog ⟨552, 554, 386⟩ (fun _ => none) 100000 100 251 [.agg ⟨[sv 0, .bool false]⟩] (mem 1 memS)) (.agg ⟨[sv 1, .bool false]⟩) = true := by kernel_rfl
theorem absR_false_true (val : Nat → Value) (hi : ∀ n, isOneV (val n) = true) (ok : ∀ r ∈ tabA false, r.good val) : isVal (@callFF (.plain val hi) (@SymT.mk (.plain val hi) (tabA false) ok) Tryz.prog ⟨552, 554, 386⟩ (fun _ => none) 100000 100 251 [.agg ⟨[sv 0, .bool true]⟩] (mem 1 memS)) (.agg ⟨[sv 0, .bool true]⟩) = true := by kernel_rfl
theorem absR_false_false (val : Nat → Value) (hi : ∀ n, isOneV (val n) = true) (ok : ∀ r ∈ tabA false, r.good val) : isVal (@callFF (.plain val hi) (@SymT.mk (.plain val hi) (tabA false) ok) Tryz.prog ⟨552, 554, 386⟩ (fun _ => none) 100000 100 251 [.agg ⟨[sv 0, .bool false]⟩] (mem 1 memS)) (.agg ⟨[sv 0, .bool false]⟩) = true := by kernel_rfl

theorem absC (x : Int) (f : Bool) (hx : x ≠ (-9223372036854775808)) (w : World) : Calls Tryz.prog 251 ⟨[.agg ⟨[.int .i64 x, .bool f]⟩]⟩ w fun e w' => e = .returned (.agg ⟨[.int .i64 (absI x), .bool f]⟩) ∧ Below w.heap.size w w' := by
  have hi : ∀ n, isOneV (cellVal [.int .i64 x, .int .i64 (IntKind.i64.wrap (0 - x))] n) = true := fun n => oneV_int (cellVal_int _ n)
  have okA : ∀ b, cmpB .gtr (IntKind.i64.wrap (0 - x)) x = b → ∀ r ∈ tabA b, r.good (cellVal [.int .i64 x, .int .i64 (IntKind.i64.wrap (0 - x))]) := fun b hb =>
    List.forall_mem_cons.2 ⟨goodC (k := .i64) (a := x) (b := (-9223372036854775808)) rfl rfl rfl rfl rfl (by simp only [cmpB, decide_eq_false_iff_not]; exact hx), List.forall_mem_cons.2 ⟨goodNeg (k := .i64) (a := x) rfl rfl,
      List.forall_mem_cons.2 ⟨goodC (k := .i64) (a := IntKind.i64.wrap (0 - x)) (b := x) rfl rfl rfl rfl rfl hb, List.forall_mem_nil _⟩⟩⟩
  letI S : SymV := (.plain (cellVal [.int .i64 x, .int .i64 (IntKind.i64.wrap (0 - x))]) hi)
  have fin : ∀ (b : Bool) (n : Nat) (y : Int) (hb : cmpB .gtr (IntKind.i64.wrap (0 - x)) x = b) (hn : SymV.val n = .int .i64 y) (hy : absI x = y),
      isVal (@callFF S (@SymT.mk S (tabA b) (okA b hb)) Tryz.prog ⟨552, 554, 386⟩ (fun _ => none) 100000 100 251 [.agg ⟨[sv 0, .bool f]⟩] (mem 1 memS)) (.agg ⟨[sv n, .bool f]⟩) = true →
      Calls Tryz.prog 251 ⟨[.agg ⟨[.int .i64 x, .bool f]⟩]⟩ w fun e w' => e = .returned (.agg ⟨[.int .i64 (absI x), .bool f]⟩) ∧ Below w.heap.size w w' := by
    intro b n y hb hn hy h
    letI TT : SymT := ⟨tabA b, okA b hb⟩
    refine (val_call (ffSound (noPrim _) 100000 100) h (.cons _ _ [] [] (.agg _ _ (.cons _ _ _ _ (.sym _ _ _ _ rfl) (.cons _ _ [] [] (.bool f) .nil))) .nil) w).mono fun e w' ⟨r, φ', he, hv, hbel⟩ => ?_
    cases hv with
    | agg _ ys h1 =>
      have hz : ys.toList = [.int .i64 y, .bool f] := by
        generalize ys.toList = l at h1
        cases h1 with
        | cons _ v1 _ l1 g1 g2 =>
          cases g1 with
          | sym _ _ _ _ hq =>
            cases g2 with
            | cons _ v2 _ l2 g3 g4 =>
              cases g3
              cases g4
              rw [hq, hn]
      refine ⟨he.trans ?_, hbel⟩
      have : ys = ⟨[.int .i64 y, .bool f]⟩ := Array.ext' hz
      rw [this, hy]
  cases hb : cmpB .gtr (IntKind.i64.wrap (0 - x)) x with
  | true =>
    have hy : absI x = IntKind.i64.wrap (0 - x) := by unfold absI; rw [if_pos hb]
    cases f
    · exact fin true 1 _ hb rfl hy (absR_true_false _ hi _)
    · exact fin true 1 _ hb rfl hy (absR_true_true _ hi _)
  | false =>
    have hy : absI x = x := by unfold absI; rw [if_neg (by rw [hb]; simp)]
    cases f
    · exact fin false 0 _ hb rfl hy (absR_false_false _ hi _)
    · exact fin false 0 _ hb rfl hy (absR_false_true _ hi _)

section
variable [SymV] [SymT]
/-- the absolute values of the numbers 0 and 1: the numbers 5 and 6 -/
noncomputable def absP (args : List Value) (m : LMem) : Option (Value × LMem) :=
  match args with
  | [.agg ⟨[.complex _ n _, .bool b]⟩] => bif Nat.beq n 0 then some (.agg ⟨[sv 5, .bool b]⟩, m) else bif Nat.beq n 1 then some (.agg ⟨[sv 6, .bool b]⟩, m) else none
  | args => callFF Tryz.prog ⟨552, 554, 386⟩ (fun _ => none) 100000 100 251 args m

noncomputable def absPrim : PrimT := fun g => bif Nat.beq g 251 then some absP else none

def AbsAt (i j : Nat) : Prop := ∃ x, SymV.val i = .int .i64 x ∧ x ≠ (-9223372036854775808) ∧ SymV.val j = .int .i64 (absI x)

theorem absPrim_ok (h0 : ∀ x, SymV.val 0 = .int .i64 x → x ≠ (-9223372036854775808) ∧ SymV.val 5 = .int .i64 (absI x)) (h1 : ∀ x, SymV.val 1 = .int .i64 x → x ≠ (-9223372036854775808) ∧ SymV.val 6 = .int .i64 (absI x))
    (k0 : ∃ x, SymV.val 0 = .int .i64 x) (k1 : ∃ x, SymV.val 1 = .int .i64 x) : PrimOK Tryz.prog absPrim := by
  intro g p hp args m v m' h hw
  unfold absPrim at hp
  cases hg : Nat.beq g 251 with
  | false => rw [hg] at hp; cases hp
  | true =>
    rw [hg] at hp
    cases hp
    have := Nat.eq_of_beq_eq_true hg
    subst this
    have one : ∀ (n j : Nat) (kk : FloatKind) (b' : Nat) (b : Bool) (x : Int), SymV.val n = .int .i64 x → x ≠ (-9223372036854775808) → SymV.val j = .int .i64 (absI x) → (v, m') = (.agg ⟨[sv j, .bool b]⟩, m) →
        (m.next ≤ m'.next ∧ WF m') ∧ ∀ φ w args', MR φ m.get w → Bd φ m.next → VRL φ [.agg ⟨[.complex kk n b', .bool b]⟩] args' → Calls Tryz.prog 251 ⟨args'⟩ w (CallPost m m' v φ w) := by
      intro n j kk b' b x hx hm hj he
      cases he
      refine ⟨⟨Nat.le_refl _, hw⟩, fun φ w args' hmr hbd ha => ?_⟩
      cases ha with
      | cons _ a1 _ l1 g1 g2 =>
        cases g2
        cases g1 with
        | agg _ ys h1 =>
          have hz : ys.toList = [.int .i64 x, .bool b] := by
            generalize ys.toList = l at h1
            cases h1 with
            | cons _ v1 _ l1 g1 g2 =>
              cases g1 with
              | sym _ _ _ _ hq =>
                cases g2 with
                | cons _ v2 _ l2 g3 g4 =>
                  cases g3
                  cases g4
                  rw [hq, hx]
          have : ys = ⟨[.int .i64 x, .bool b]⟩ := Array.ext' hz
          subst this
          exact prim_below hmr hbd (.agg _ _ (.cons _ _ _ _ (.sym _ _ _ _ hj.symm) (.cons _ _ [] [] (.bool b) .nil))) (absC x b hm w)
    unfold absP at h
    split at h
    · rename_i kk n b' b
      cases h2 : Nat.beq n 0 with
      | true =>
        rw [h2] at h
        have := Nat.eq_of_beq_eq_true h2
        subst this
        obtain ⟨x, hx⟩ := k0
        obtain ⟨q1, q2⟩ := h0 x hx
        exact one 0 5 kk b' b x hx q1 q2 (by simpa using h.symm)
      | false =>
        rw [h2] at h
        cases h3 : Nat.beq n 1 with
        | false => rw [h3] at h; cases h
        | true =>
          rw [h3] at h
          have := Nat.eq_of_beq_eq_true h3
          subst this
          obtain ⟨x, hx⟩ := k1
          obtain ⟨q1, q2⟩ := h1 x hx
          exact one 1 6 kk b' b x hx q1 q2 (by simpa using h.symm)
    · exact ffSound (noPrim _) 100000 100 251 args m v m' h hw
end

theorem eqlT {a b : Int} (h : cmpB .eql a b = true) : a = b := of_decide_eq_true h
theorem eqlF {a b : Int} (h : cmpB .eql a b = false) : a ≠ b := of_decide_eq_false h
theorem lssT {a b : Int} (h : cmpB .lss a b = true) : a < b := of_decide_eq_true h
theorem lssF {a b : Int} (h : cmpB .lss a b = false) : ¬ a < b := of_decide_eq_false h
theorem leqT {a b : Int} (h : cmpB .leq a b = true) : a ≤ b := of_decide_eq_true h
theorem leqF {a b : Int} (h : cmpB .leq a b = false) : ¬ a ≤ b := of_decide_eq_false h
theorem gtrT {a b : Int} (h : cmpB .gtr a b = true) : b < a := of_decide_eq_true h
theorem gtrF {a b : Int} (h : cmpB .gtr a b = false) : ¬ b < a := of_decide_eq_false h
theorem geqT {a b : Int} (h : cmpB .geq a b = true) : b ≤ a := of_decide_eq_true h
theorem geqF {a b : Int} (h : cmpB .geq a b = false) : ¬ b ≤ a := of_decide_eq_false h

/-- what a setup's check answers -/
def ckS (x : Int) (fx : Bool) (y : Int) (fy : Bool) (d : Int) (fd : Bool) (m r : Int) : Int :=
  if fx = false ∧ fy = false ∧ fd = false ∧ (-274877906944 ≤ x ∧ x ≤ 274877906944 ∧ -274877906944 ≤ y ∧ y ≤ 274877906944 ∧ 4194304 ≤ d ∧ d ≤ 536870912 ∧ 1 ≤ m ∧ m ≤ 64 ∧ 1 ≤ r ∧ r ≤ 16) then 0 else 3
end Go.Proofs.YtogdmfknfkcjdaaGreat
