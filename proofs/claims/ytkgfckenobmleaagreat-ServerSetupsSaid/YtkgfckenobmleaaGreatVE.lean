/- ServerSetups: what the checks of setups say. -/
import Derived.Test.YtkgfckenobmleaaGreatUC
import Derived.IntWalk
set_option linter.unusedSimpArgs false
set_option linter.unusedVariables false
/-- one way after the other -/
theorem Go.Eng.both {α : Type} {c : Bool} {a b r : α} (h1 : c = true → a = r) (h2 : c = false → b = r) : (bif c then a else b) = r := by
  cases c with
  | true => exact h1 rfl
  | false => exact h2 rfl
namespace Go.Proofs.YtkgfckenobmleaaGreat.U
open Go Go.Eng
abbrev noL : List Value := []
structure Su where
  (x y d m r ns nt nq : Int)
  (fx fy fd : Bool)
def suL (s : Su) : List Value := [.int .i64 s.x, .bool s.fx, .int .i64 s.y, .bool s.fy, .int .i64 s.d, .bool s.fd, .int .i64 s.m, .int .i64 s.r, .int .i64 s.ns, .int .i64 s.nt, .int .i64 s.nq]
def roomL (s : Su) : List Value := [.int .i64 s.x, .bool s.fx, .int .i64 s.y, .bool s.fy, .int .i64 s.d, .bool s.fd, .int .i64 s.m, .int .i64 s.r]
def i64R (n : Int) : Prop := -9223372036854775808 ≤ n ∧ n ≤ 9223372036854775807
def snd (x : Int) : Int := bif (x == -9223372036854775808) then -9223372036854775807 else x
def cmpV (x y : Int) : Int := bif decide (snd x < snd y) then -1 else bif decide (snd y < snd x) then 1 else 0
def absV (x : Int) : Int := if (IntKind.i64.wrap (0 - x)) > x then (IntKind.i64.wrap (0 - x)) else x
def okS4 (x : Int) (fx : Bool) (y : Int) (fy : Bool) (d : Int) (fd : Bool) (m r : Int) : Prop :=
  fx = false ∧ fy = false ∧ fd = false ∧ (-274877906944 ≤ x ∧ x ≤ 274877906944 ∧ -274877906944 ≤ y ∧ y ≤ 274877906944 ∧ 4194304 ≤ d ∧ d ≤ 536870912 ∧ 1 ≤ m ∧ m ≤ 64 ∧ 1 ≤ r ∧ r ≤ 16)
instance {x : Int} {fx : Bool} {y : Int} {fy : Bool} {d : Int} {fd : Bool} {m r : Int} : Decidable (okS4 x fx y fy d fd m r) := by unfold okS4; infer_instance
def ckS (x : Int) (fx : Bool) (y : Int) (fy : Bool) (d : Int) (fd : Bool) (m r : Int) : Int := if okS4 x fx y fy d fd m r then 0 else 3
def ckRoom (s : Su) : Int := ckS s.x s.fx s.y s.fy s.d s.fd s.m s.r
def ckSv (s : Su) : Int := if ckRoom s = 0 then (if s.ns < 1 ∨ 16 < s.ns ∨ s.nt < 1 ∨ 64 < s.nt ∨ s.nq < 1 ∨ 65536 < s.nq then 3 else 0) else 3
theorem ckS_3 {x : Int} {fx : Bool} {y : Int} {fy : Bool} {d : Int} {fd : Bool} {m r : Int} (h : ¬ okS4 x fx y fy d fd m r) : some ([Value.int .i64 3], noL) = some ([.int .i64 (ckS x fx y fy d fd m r)], noL) := by
  unfold ckS
  rw [if_neg h]
theorem ckS_0 {x : Int} {fx : Bool} {y : Int} {fy : Bool} {d : Int} {fd : Bool} {m r : Int} (h : okS4 x fx y fy d fd m r) : some ([Value.int .i64 0], noL) = some ([.int .i64 (ckS x fx y fy d fd m r)], noL) := by
  unfold ckS
  rw [if_pos h]
theorem snd_is (x : Int) : (x = -9223372036854775808 ∧ snd x = -9223372036854775807) ∨ (x ≠ -9223372036854775808 ∧ snd x = x) := by
  unfold snd
  by_cases h : x = -9223372036854775808
  · left; subst h; exact ⟨rfl, rfl⟩
  · right
    refine ⟨h, ?_⟩
    rw [beq_eq_false_iff_ne.2 h]
    rfl
theorem cmpV_is (x y : Int) : (cmpV x y = -1 ∧ snd x < snd y) ∨ (cmpV x y = 0 ∧ snd x = snd y) ∨ (cmpV x y = 1 ∧ snd y < snd x) := by
  unfold cmpV
  by_cases h : snd x < snd y
  · left; rw [decide_eq_true h]; exact ⟨rfl, h⟩
  · right
    rw [decide_eq_false h]
    by_cases h2 : snd y < snd x
    · right; rw [decide_eq_true h2]; exact ⟨rfl, h2⟩
    · left; rw [decide_eq_false h2]; exact ⟨rfl, by omega⟩
theorem absV_is {x : Int} (hx : i64R x) : (x = -9223372036854775808 ∧ absV x = x) ∨ (-9223372036854775808 < x ∧ x < 0 ∧ absV x = -x) ∨ (0 ≤ x ∧ absV x = x) := by
  obtain ⟨h1, h2⟩ := hx
  unfold absV
  rw [IntKind.wrap_i64]
  split <;> omega
def cmp_t (x : Int) (p : Bool) (y : Int) (q : Bool) : Option (List Value × List Value) :=
  bif (x == (-9223372036854775808)) then bif (y == (-9223372036854775808)) then some ([.int .i64 (0)], noL)
    else bif (y != y) then none
    else bif (decide ((-9223372036854775807) < y)) then some ([.int .i64 (-1)], noL)
    else bif (decide ((-9223372036854775807) > y)) then some ([.int .i64 (1)], noL)
    else some ([.int .i64 (0)], noL)
  else bif (y == (-9223372036854775808)) then bif (x != x) then none
    else bif (decide (x < (-9223372036854775807))) then some ([.int .i64 (-1)], noL)
    else bif (decide (x > (-9223372036854775807))) then some ([.int .i64 (1)], noL)
    else some ([.int .i64 (0)], noL)
  else bif (x != x) then none
  else bif (y != y) then none
  else bif (decide (x < y)) then some ([.int .i64 (-1)], noL)
  else bif (decide (x > y)) then some ([.int .i64 (1)], noL)
  else some ([.int .i64 (0)], noL)
theorem cmp_q (x : Int) (p : Bool) (y : Int) (q : Bool) (hx : i64R x) (hy : i64R y) : cmp_t x p y q = some ([.int .i64 (cmpV x y)], noL) := by
  unfold cmp_t
  unfold i64R at hx hy
  have h1 := cmpV_is x y
  have h2 := snd_is x
  have h3 := snd_is y
  generalize cmpV x y = c at *
  have key : ∀ n : Int, n = c → some ([Value.int .i64 n], noL) = some ([.int .i64 c], noL) := fun n h => by rw [h]
  (repeat' (refine Go.Eng.both (fun h => ?_) (fun h => ?_)))
  all_goals first
    | (refine key _ ?_; (simp only [decide_eq_true_eq, decide_eq_false_iff_not, beq_iff_eq, beq_eq_false_iff_ne, bne_iff_ne, bne_eq_false_iff_eq, ne_eq, Bool.not_not, Bool.not_eq_true', Bool.not_eq_false', not_true_eq_false] at *) <;> omega)
    | (exfalso; (simp only [decide_eq_true_eq, decide_eq_false_iff_not, beq_iff_eq, beq_eq_false_iff_ne, bne_iff_ne, bne_eq_false_iff_eq, ne_eq, Bool.not_not, Bool.not_eq_true', Bool.not_eq_false', not_true_eq_false] at *) <;> omega)
theorem cmp_cF (l k : List Value) : cmp_c.F l k = CFn.F (P := Tryz.prog) [] cmp_f l k := rfl
theorem cmp_F (x : Int) (p : Bool) (y : Int) (q : Bool) (hx : i64R x) (hy : i64R y) : cmp_c.F [.int .i64 x, .bool p, .int .i64 y, .bool q] [] = some ([.int .i64 (cmpV x y)], noL) := by
  rw [cmp_cF]
  exact CFn.flat (cs := []) (F := cmp_f) _ rfl (Eq.trans (b := cmp_t x p y q) (by kernel_rfl) (cmp_q x p y q hx hy))
def rck_t (x : Int) (fx : Bool) (y : Int) (fy : Bool) (d : Int) (fd : Bool) (m r : Int) : Option (List Value × List Value) :=
  bif (x == (-9223372036854775808)) then some ([.int .i64 (3)], noL)
  else bif (!fx) then bif (decide (x ≤ (274877906944))) then bif (decide (x ≥ (-274877906944))) then bif (y == (-9223372036854775808)) then some ([.int .i64 (3)], noL)
        else bif (!fy) then bif (decide (y ≤ (274877906944))) then bif (decide (y ≥ (-274877906944))) then bif fd then some ([.int .i64 (3)], noL)
              else bif (decide (d < (4194304))) then some ([.int .i64 (3)], noL)
              else bif (decide (d > (536870912))) then some ([.int .i64 (3)], noL)
              else bif (decide (m < (1))) then some ([.int .i64 (3)], noL)
              else bif (decide (m > (64))) then some ([.int .i64 (3)], noL)
              else bif (decide (r < (1))) then some ([.int .i64 (3)], noL)
              else bif (decide (r > (16))) then some ([.int .i64 (3)], noL)
              else some ([.int .i64 (0)], noL)
            else some ([.int .i64 (3)], noL)
          else some ([.int .i64 (3)], noL)
        else some ([.int .i64 (3)], noL)
      else some ([.int .i64 (3)], noL)
    else some ([.int .i64 (3)], noL)
  else some ([.int .i64 (3)], noL)
theorem rck_q (x : Int) (fx : Bool) (y : Int) (fy : Bool) (d : Int) (fd : Bool) (m r : Int) : rck_t x fx y fy d fd m r = some ([.int .i64 (ckS x fx y fy d fd m r)], noL) := by
  unfold rck_t
  (repeat' (refine Go.Eng.both (fun h => ?_) (fun h => ?_)))
  all_goals first
    | (refine ckS_3 ?_; rintro ⟨rfl, rfl, rfl, hh⟩; (simp only [decide_eq_true_eq, decide_eq_false_iff_not, beq_iff_eq, beq_eq_false_iff_ne, bne_iff_ne, bne_eq_false_iff_eq, ne_eq, Bool.not_not, Bool.not_eq_true', Bool.not_eq_false', not_true_eq_false] at *); first | omega | (exfalso; simp_all; done))
    | (refine ckS_0 ?_; (simp only [decide_eq_true_eq, decide_eq_false_iff_not, beq_iff_eq, beq_eq_false_iff_ne, bne_iff_ne, bne_eq_false_iff_eq, ne_eq, Bool.not_not, Bool.not_eq_true', Bool.not_eq_false', not_true_eq_false] at *); refine ⟨?_, ?_, ?_, ?_⟩ <;> first | assumption | omega)
    | (exfalso; (simp only [decide_eq_true_eq, decide_eq_false_iff_not, beq_iff_eq, beq_eq_false_iff_ne, bne_iff_ne, bne_eq_false_iff_eq, ne_eq, Bool.not_not, Bool.not_eq_true', Bool.not_eq_false', not_true_eq_false] at *) <;> omega)
    | (exfalso; simp_all; done)
theorem rck_cF (l k : List Value) : rck_c.F l k = CFn.F (P := Tryz.prog) [] rck_f l k := rfl
theorem rck_F (s : Su) : rck_c.F (roomL s) [] = some ([.int .i64 (ckRoom s)], noL) := by
  rw [rck_cF]
  exact CFn.flat (cs := []) (F := rck_f) _ rfl (Eq.trans (b := rck_t s.x s.fx s.y s.fy s.d s.fd s.m s.r) (by kernel_rfl) (rck_q ..))
def wck_t (x : Int) (fx : Bool) (y : Int) (fy : Bool) (d : Int) (fd : Bool) (m r : Int) : Option (List Value × List Value) :=
  bif (decide ((cmpV d 536870912) ≤ (0))) then bif (!(!fd)) then some ([.int .i64 (3)], noL)
    else bif (x == (-9223372036854775808)) then bif (y == (-9223372036854775808)) then some ([.int .i64 (3)], noL)
      else bif ((absV y) == (-9223372036854775808)) then some ([.int .i64 (3)], noL)
      else bif ((absV y) != (absV y)) then none
      else bif (decide ((absV y) < (9223372036854775807))) then some ([.int .i64 (3)], noL)
      else bif (decide ((absV y) > (9223372036854775807))) then some ([.int .i64 (3)], noL)
      else some ([.int .i64 (3)], noL)
    else bif (y == (-9223372036854775808)) then bif ((absV x) == (-9223372036854775808)) then some ([.int .i64 (3)], noL)
      else bif fx then bif ((absV x) != (absV x)) then none
        else bif (decide ((9223372036854775807) < (absV x))) then some ([.int .i64 (3)], noL)
        else bif (decide ((9223372036854775807) > (absV x))) then some ([.int .i64 (3)], noL)
        else some ([.int .i64 (3)], noL)
      else bif ((absV x) != (absV x)) then none
      else bif (decide ((9223372036854775807) < (absV x))) then some ([.int .i64 (3)], noL)
      else bif (decide ((9223372036854775807) > (absV x))) then some ([.int .i64 (3)], noL)
      else some ([.int .i64 (3)], noL)
    else bif ((absV x) == (-9223372036854775808)) then bif ((absV y) == (-9223372036854775808)) then some ([.int .i64 (3)], noL)
      else bif ((absV y) != (absV y)) then none
      else bif (decide ((absV y) < (-9223372036854775807))) then some ([.int .i64 (3)], noL)
      else bif (decide ((absV y) > (-9223372036854775807))) then some ([.int .i64 (3)], noL)
      else some ([.int .i64 (3)], noL)
    else bif ((absV y) == (-9223372036854775808)) then bif fx then bif ((absV x) != (absV x)) then none
        else bif (decide ((-9223372036854775807) < (absV x))) then some ([.int .i64 (3)], noL)
        else bif (decide ((-9223372036854775807) > (absV x))) then some ([.int .i64 (3)], noL)
        else some ([.int .i64 (3)], noL)
      else bif ((absV x) != (absV x)) then none
      else bif (decide ((-9223372036854775807) < (absV x))) then some ([.int .i64 (3)], noL)
      else bif (decide ((-9223372036854775807) > (absV x))) then some ([.int .i64 (3)], noL)
      else some ([.int .i64 (3)], noL)
    else bif fx then bif ((absV y) != (absV y)) then none
      else bif ((absV x) != (absV x)) then none
      else bif (decide ((absV y) < (absV x))) then some ([.int .i64 (3)], noL)
      else bif (decide ((absV y) > (absV x))) then some ([.int .i64 (3)], noL)
      else some ([.int .i64 (3)], noL)
    else bif ((absV y) != (absV y)) then none
    else bif ((absV x) != (absV x)) then none
    else bif (decide ((absV y) < (absV x))) then bif fy then some ([.int .i64 (3)], noL)
      else bif (decide ((absV x) > (274877906944))) then some ([.int .i64 (3)], noL)
      else bif (decide (m < (1))) then some ([.int .i64 (3)], noL)
      else bif (decide (m > (64))) then some ([.int .i64 (3)], noL)
      else bif (decide (r < (1))) then some ([.int .i64 (3)], noL)
      else bif (decide (r > (16))) then some ([.int .i64 (3)], noL)
      else some ([.int .i64 (0)], noL)
    else bif (decide ((absV y) > (absV x))) then bif fy then some ([.int .i64 (3)], noL)
      else bif (decide ((absV y) > (274877906944))) then some ([.int .i64 (3)], noL)
      else bif (decide (m < (1))) then some ([.int .i64 (3)], noL)
      else bif (decide (m > (64))) then some ([.int .i64 (3)], noL)
      else bif (decide (r < (1))) then some ([.int .i64 (3)], noL)
      else bif (decide (r > (16))) then some ([.int .i64 (3)], noL)
      else some ([.int .i64 (0)], noL)
    else bif fy then some ([.int .i64 (3)], noL)
    else bif (decide ((absV x) > (274877906944))) then some ([.int .i64 (3)], noL)
    else bif (decide (m < (1))) then some ([.int .i64 (3)], noL)
    else bif (decide (m > (64))) then some ([.int .i64 (3)], noL)
    else bif (decide (r < (1))) then some ([.int .i64 (3)], noL)
    else bif (decide (r > (16))) then some ([.int .i64 (3)], noL)
    else some ([.int .i64 (0)], noL)
  else some ([.int .i64 (3)], noL)
theorem wck_q (x : Int) (fx : Bool) (y : Int) (fy : Bool) (d : Int) (fd : Bool) (m r : Int) (hx : i64R x) (hy : i64R y) (hd : 0 ≤ cmpV d 4194304) : wck_t x fx y fy d fd m r = some ([.int .i64 (ckS x fx y fy d fd m r)], noL) := by
  have hd1 : 4194304 ≤ d := by
    have h1 := cmpV_is d 4194304
    have h2 := snd_is d
    have h3 := snd_is 4194304
    omega
  have hd2 : (cmpV d 536870912 ≤ 0 ∧ d ≤ 536870912) ∨ (¬ cmpV d 536870912 ≤ 0 ∧ 536870912 < d) := by
    have h1 := cmpV_is d 536870912
    have h2 := snd_is d
    have h3 := snd_is 536870912
    omega
  have h1 := absV_is hx
  have h2 := absV_is hy
  unfold wck_t
  generalize cmpV d 536870912 = u at *
  generalize cmpV d 4194304 = u1 at *
  generalize absV x = ax at *
  generalize absV y = ay at *
  (repeat' (refine Go.Eng.both (fun h => ?_) (fun h => ?_)))
  all_goals first
    | (refine ckS_3 ?_; rintro ⟨rfl, rfl, rfl, hh⟩; (simp only [decide_eq_true_eq, decide_eq_false_iff_not, beq_iff_eq, beq_eq_false_iff_ne, bne_iff_ne, bne_eq_false_iff_eq, ne_eq, Bool.not_not, Bool.not_eq_true', Bool.not_eq_false', not_true_eq_false] at *); first | omega | (exfalso; simp_all; done))
    | (refine ckS_0 ?_; (simp only [decide_eq_true_eq, decide_eq_false_iff_not, beq_iff_eq, beq_eq_false_iff_ne, bne_iff_ne, bne_eq_false_iff_eq, ne_eq, Bool.not_not, Bool.not_eq_true', Bool.not_eq_false', not_true_eq_false] at *); refine ⟨?_, ?_, ?_, ?_⟩ <;> first | assumption | omega)
    | (exfalso; (simp only [decide_eq_true_eq, decide_eq_false_iff_not, beq_iff_eq, beq_eq_false_iff_ne, bne_iff_ne, bne_eq_false_iff_eq, ne_eq, Bool.not_not, Bool.not_eq_true', Bool.not_eq_false', not_true_eq_false] at *) <;> omega)
    | (exfalso; simp_all; done)
theorem wck_cF (l k : List Value) : wck_c.F l k = CFn.F (P := Tryz.prog) [cmp_c] wck_f l k := rfl
theorem wck_F (s : Su) (hx : i64R s.x) (hy : i64R s.y) (hd : i64R s.d) : wck_c.F (roomL s) [] = some ([.int .i64 (ckRoom s)], noL) := by
  rw [wck_cF]
  refine CFn.flat (cs := [cmp_c]) (F := wck_f) _ rfl ?_
  refine Eq.trans (evK_c [.int .i64 (cmpV s.d 4194304)] [] rfl (cmp_F s.d s.fd 4194304 false hd (by unfold i64R; omega))) ?_
  refine Eq.trans (evK_t (decide (cmpV s.d 4194304 ≥ 0)) (by rfl)) ?_
  cases hc : decide (cmpV s.d 4194304 ≥ 0) with
  | false =>
    have hc : ¬ 0 ≤ cmpV s.d 4194304 := of_decide_eq_false hc
    refine Eq.trans (b := some ([.int .i64 3], noL)) (by kernel_rfl) (ckS_3 ?_)
    rintro ⟨_, _, _, _, _, _, _, h, _⟩
    have h1 := cmpV_is s.d 4194304
    have h2 := snd_is s.d
    have h3 := snd_is 4194304
    omega
  | true =>
    rw [cond_true]
    refine Eq.trans (evK_c [.int .i64 (cmpV s.d 536870912)] [] rfl (cmp_F s.d s.fd 536870912 false hd (by unfold i64R; omega))) ?_
    exact Eq.trans (b := wck_t s.x s.fx s.y s.fy s.d s.fd s.m s.r) (by kernel_rfl) (wck_q _ _ _ _ _ _ _ _ hx hy (of_decide_eq_true hc))
theorem ckRoom_cases (s : Su) : ckRoom s = 0 ∨ ckRoom s = 3 := by
  unfold ckRoom ckS
  split
  · exact .inl rfl
  · exact .inr rfl
def sck_t (s : Su) : Option (List Value × List Value) :=
  bif ((ckRoom s) != (0)) then some ([.int .i64 ((ckRoom s))], noL)
  else bif (decide (s.ns < (1))) then some ([.int .i64 (3)], noL)
  else bif (decide (s.ns > (16))) then some ([.int .i64 (3)], noL)
  else bif (decide (s.nt < (1))) then some ([.int .i64 (3)], noL)
  else bif (decide (s.nt > (64))) then some ([.int .i64 (3)], noL)
  else bif (decide (s.nq < (1))) then some ([.int .i64 (3)], noL)
  else bif (decide (s.nq > (65536))) then some ([.int .i64 (3)], noL)
  else some ([.int .i64 (0)], noL)
theorem sck_q (s : Su) : sck_t s = some ([.int .i64 (ckSv s)], noL) := by
  have h := ckRoom_cases s
  unfold sck_t ckSv
  generalize ckRoom s = c at *
  have key : ∀ a b : Int, a = b → some ([Value.int .i64 a], noL) = some ([.int .i64 b], noL) := fun a b h => by rw [h]
  (repeat' (refine Go.Eng.both (fun h => ?_) (fun h => ?_)))
  all_goals first
    | (refine key _ _ ?_; (simp only [decide_eq_true_eq, decide_eq_false_iff_not, beq_iff_eq, beq_eq_false_iff_ne, bne_iff_ne, bne_eq_false_iff_eq, ne_eq, Bool.not_not, Bool.not_eq_true', Bool.not_eq_false', not_true_eq_false] at *); repeat' split
       all_goals omega)
    | (exfalso; (simp only [decide_eq_true_eq, decide_eq_false_iff_not, beq_iff_eq, beq_eq_false_iff_ne, bne_iff_ne, bne_eq_false_iff_eq, ne_eq, Bool.not_not, Bool.not_eq_true', Bool.not_eq_false', not_true_eq_false] at *) <;> omega)
def qck_t (s : Su) : Option (List Value × List Value) :=
  bif ((ckRoom s) != (0)) then some ([.int .i64 ((ckRoom s))], noL)
  else bif (decide (s.ns < (1))) then some ([.int .i64 (3)], noL)
  else bif (decide (s.ns > (16))) then some ([.int .i64 (3)], noL)
  else bif (decide (s.nt < (1))) then some ([.int .i64 (3)], noL)
  else bif (decide (s.nt > (64))) then some ([.int .i64 (3)], noL)
  else bif (decide (s.nq < (1))) then some ([.int .i64 (3)], noL)
  else bif (decide (s.nq > (65536))) then some ([.int .i64 (3)], noL)
  else some ([.int .i64 (0)], noL)
theorem qck_q (s : Su) : qck_t s = some ([.int .i64 (ckSv s)], noL) := by
  have h := ckRoom_cases s
  unfold qck_t ckSv
  generalize ckRoom s = c at *
  have key : ∀ a b : Int, a = b → some ([Value.int .i64 a], noL) = some ([.int .i64 b], noL) := fun a b h => by rw [h]
  (repeat' (refine Go.Eng.both (fun h => ?_) (fun h => ?_)))
  all_goals first
    | (refine key _ _ ?_; (simp only [decide_eq_true_eq, decide_eq_false_iff_not, beq_iff_eq, beq_eq_false_iff_ne, bne_iff_ne, bne_eq_false_iff_eq, ne_eq, Bool.not_not, Bool.not_eq_true', Bool.not_eq_false', not_true_eq_false] at *); repeat' split
       all_goals omega)
    | (exfalso; (simp only [decide_eq_true_eq, decide_eq_false_iff_not, beq_iff_eq, beq_eq_false_iff_ne, bne_iff_ne, bne_eq_false_iff_eq, ne_eq, Bool.not_not, Bool.not_eq_true', Bool.not_eq_false', not_true_eq_false] at *) <;> omega)
theorem sck_cF (l k : List Value) : sck_c.F l k = CFn.F (P := Tryz.prog) [wck_c] sck_f l k := rfl
theorem qck_cF (l k : List Value) : qck_c.F l k = CFn.F (P := Tryz.prog) [rck_c] qck_f l k := rfl
theorem sck_F (s : Su) (hx : i64R s.x) (hy : i64R s.y) (hd : i64R s.d) : sck_c.F (suL s) [] = some ([.int .i64 (ckSv s)], noL) := by
  rw [sck_cF]
  refine CFn.flat (cs := [wck_c]) (F := sck_f) _ rfl ?_
  refine Eq.trans (evK_c [.int .i64 (ckRoom s)] [] rfl (wck_F s hx hy hd)) ?_
  exact Eq.trans (b := sck_t s) (by kernel_rfl) (sck_q s)
theorem qck_F (s : Su) : qck_c.F (suL s) [] = some ([.int .i64 (ckSv s)], noL) := by
  rw [qck_cF]
  refine CFn.flat (cs := [rck_c]) (F := qck_f) _ rfl ?_
  refine Eq.trans (evK_c [.int .i64 (ckRoom s)] [] rfl (rck_F s)) ?_
  exact Eq.trans (b := qck_t s) (by kernel_rfl) (qck_q s)
theorem ckSv_cases (s : Su) : ckSv s = 0 ∨ ckSv s = 3 := by
  unfold ckSv
  split
  · split
    · exact .inr rfl
    · exact .inl rfl
  · exact .inr rfl
def su64 (s : Su) : Prop := i64R s.x ∧ i64R s.y ∧ i64R s.d
end Go.Proofs.YtkgfckenobmleaaGreat.U
