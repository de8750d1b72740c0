/- The reader of scripts, in plain words: what it takes, and what it leaves. -/
import Derived.Test.YtfcjlgdpdomoeaaGreatUP
set_option linter.unusedSimpArgs false
set_option linter.unusedVariables false
namespace Go.Proofs.YtfcjlgdpdomoeaaGreat.U
open Go Go.Eng
/-- bytes as a number, the highest first -/
def beN : List UInt8 → Nat
  | [] => 0
  | b :: r => b.toNat * 256 ^ r.length + beN r
/-- the lowest bytes of a number, the highest first -/
def beU (n : Nat) : Nat → List UInt8
  | 0 => []
  | k + 1 => UInt8.ofNat (n / 256 ^ k) :: beU n k
theorem beU_len (n : Nat) : ∀ k, (beU n k).length = k
  | 0 => rfl
  | k + 1 => by rw [beU, List.length_cons, beU_len n k]
theorem beN_snoc (b : UInt8) : ∀ l : List UInt8, beN (l ++ [b]) = beN l * 256 + b.toNat
  | [] => by simp [beN]
  | a :: r => by
    show a.toNat * 256 ^ (r ++ [b]).length + beN (r ++ [b]) = (a.toNat * 256 ^ r.length + beN r) * 256 + b.toNat
    rw [beN_snoc b r, List.length_append, List.length_singleton, Nat.pow_succ, Nat.add_mul, Nat.mul_assoc]
    omega
theorem beN_lt : ∀ l : List UInt8, beN l < 256 ^ l.length
  | [] => by decide
  | a :: r => by
    have h1 := beN_lt r
    have h2 : a.toNat < 256 := a.toNat_lt
    have h3 : a.toNat * 256 ^ r.length ≤ 255 * 256 ^ r.length := Nat.mul_le_mul_right _ (by omega)
    show a.toNat * 256 ^ r.length + beN r < 256 ^ (r.length + 1)
    rw [Nat.pow_succ]
    omega
theorem beU_snoc (n : Nat) : ∀ k, beU n (k + 1) = beU (n / 256) k ++ [UInt8.ofNat n]
  | 0 => by simp [beU]
  | k + 1 => by
    rw [beU, beU_snoc n k, beU, Nat.div_div_eq_div_mul, Nat.pow_succ, Nat.mul_comm]
    rfl
theorem ofNat_add (x : Nat) (b : UInt8) : UInt8.ofNat (x * 256 + b.toNat) = b := by
  apply UInt8.toNat_inj.1
  rw [UInt8.toNat_ofNat']
  have := b.toNat_lt
  omega
theorem beU_beN : ∀ (k : Nat) (u : List UInt8), u.length = k → beU (beN u) k = u := by
  intro k
  induction k with
  | zero =>
    intro u hu
    rw [List.length_eq_zero_iff.1 hu]
    rfl
  | succ k ih =>
    intro u hu
    have hne : u ≠ [] := by intro h; rw [h] at hu; cases hu
    have e : u = u.dropLast ++ [u.getLast hne] := (List.dropLast_concat_getLast hne).symm
    generalize u.getLast hne = b at e
    have hl : u.dropLast.length = k := by rw [List.length_dropLast, hu]; rfl
    generalize u.dropLast = w at *
    subst e
    rw [beU_snoc, beN_snoc, ofNat_add]
    have h1 : (beN w * 256 + b.toNat) / 256 = beN w := by have := b.toNat_lt; omega
    rw [h1, ih w hl]
theorem beN_beU : ∀ (k n : Nat), beN (beU n k) = n % 256 ^ k := by
  intro k
  induction k with
  | zero => intro n; rw [Nat.pow_zero, Nat.mod_one]; rfl
  | succ k ih =>
    intro n
    have h : 256 ^ (k + 1) = 256 * 256 ^ k := by rw [Nat.pow_succ, Nat.mul_comm]
    rw [beU_snoc, beN_snoc, ih, UInt8.toNat_ofNat', h, Nat.mod_mul]
    generalize n / 256 % 256 ^ k = m
    have h2 : (2 : Nat) ^ 8 = 256 := rfl
    rw [h2]
    omega
/-- the two ways to write a number's bytes are one -/
theorem toL_be (n : Nat) : ∀ k, toL (be (n : Int) k) = beU n k
  | 0 => rfl
  | k + 1 => by
    show UInt8.ofNat (byV (n : Int) k).toNat :: toL (be (n : Int) k) = _
    rw [toL_be n k, beU]
    congr 1
    apply UInt8.toNat_inj.1
    rw [UInt8.toNat_ofNat', UInt8.toNat_ofNat']
    have e : (n : Int).fdiv (2 ^ (8 * k)) = ((n / 256 ^ k : Nat) : Int) := by
      rw [Int.fdiv_eq_ediv_of_nonneg _ (Int.le_of_lt (Int.pow_pos (by decide))), Int.pow_mul]
      have e2 : ((2 : Int) ^ 8) ^ k = ((256 ^ k : Nat) : Int) := by rw [Int.natCast_pow]; rfl
      rw [e2]
      rfl
    unfold byV shV
    rw [e]
    generalize n / 256 ^ k = m
    have h : IntKind.u8.wrap (m : Int) = ((m % 256 : Nat) : Int) := by
      simp [IntKind.wrap, IntKind.bits, IntKind.signed]
    rw [h, Int.toNat_natCast]
    omega

/-- a reader -/
abbrev Rd (α : Type) := List UInt8 → Except Int (α × List UInt8)
def rRet {α : Type} (a : α) : Rd α := fun t => .ok (a, t)
def rErr {α : Type} (e : Int) : Rd α := fun _ => .error e
def rBnd {α β : Type} (m : Rd α) (f : α → Rd β) : Rd β := fun t => match m t with
  | .ok (a, r) => f a r
  | .error e => .error e
def rCut (n : Nat) : Rd (List UInt8) := fun t => if n ≤ t.length then .ok (t.take n, t.drop n) else .error 7
def rTake (n : Nat) : Rd Nat := rBnd (rCut n) fun u => rRet (beN u)
def rCount : Rd Nat := rBnd (rTake 4) fun v => if v ≤ 2147483647 then rRet v else rErr 4
def toI64 (v : Nat) : Int := IntKind.i64.wrap (v : Int)
def rNum : Rd (Int × Bool) := rBnd (rTake 8) fun v => if toI64 v ≠ -9223372036854775808 then rBnd (rTake 1) (fun f => if f ≤ 1 then rRet (toI64 v, decide (f = 1)) else rErr 4) else rErr 4
def rOp : Rd OpV := rBnd (rTake 1) fun k => rBnd (rTake 1) fun s =>
  if k = 3 then rBnd rCount (fun n => if n ≤ 65536 then rBnd (rCut n) (fun b => rRet ⟨k, s, ⟨⟨b⟩⟩, 0⟩) else rErr 6)
  else if k = 4 then rBnd rCount (fun n => rRet ⟨k, s, ⟨⟨[]⟩⟩, n⟩) else rRet ⟨k, s, ⟨⟨[]⟩⟩, 0⟩
def rOps : Nat → Rd (List OpV)
  | 0 => rRet []
  | n + 1 => rBnd rOp fun o => rBnd (rOps n) fun l => rRet (o :: l)
def rHead : Rd (Su × Nat) := rBnd rNum fun x => rBnd rNum fun y => rBnd rNum fun d => rBnd rCount fun m => rBnd rCount fun r => rBnd rCount fun ns => rBnd rCount fun nt => rBnd rCount fun nq => rBnd rCount fun n =>
  if n ≤ 400 then rRet (⟨x.1, y.1, d.1, m, r, ns, nt, nq, x.2, y.2, d.2⟩, n) else rErr 6
def rEnd : Rd Unit := fun t => if t = [] then .ok ((), t) else .error 6
def rBody : Rd (Su × List OpV) := rBnd rHead fun h => rBnd (rOps h.2) fun l => rRet (h.1, l)
def rScript : Rd (Su × List OpV) := rBnd rBody fun a => rBnd rEnd fun _ => rRet a

theorem rBnd_ok {α β : Type} {m : Rd α} {f : α → Rd β} {t r : List UInt8} {b : β} (h : rBnd m f t = .ok (b, r)) : ∃ a r1, m t = .ok (a, r1) ∧ f a r1 = .ok (b, r) := by
  unfold rBnd at h
  split at h
  · rename_i a r1 h1
    exact ⟨a, r1, h1, h⟩
  · cases h
theorem rBnd_at {α β : Type} {m : Rd α} {f : α → Rd β} {t r1 : List UInt8} {a : α} (h : m t = .ok (a, r1)) : rBnd m f t = f a r1 := by
  unfold rBnd
  rw [h]
theorem rBnd_er {α β : Type} {m : Rd α} {f : α → Rd β} {t : List UInt8} {e : Int} (h : m t = .error e) : rBnd m f t = .error e := by
  unfold rBnd
  rw [h]

/-- a reader takes a beginning, no more and no less, and says 7 when it is cut short -/
def Good {α : Type} (m : Rd α) : Prop := ∀ t a r, m t = .ok (a, r) → ∃ u, t = u ++ r ∧ (∀ r', m (u ++ r') = .ok (a, r')) ∧ (∀ v w, u = v ++ w → w ≠ [] → m v = .error 7)
theorem Good.ret {α : Type} (a : α) : Good (rRet a) := by
  intro t b r h
  cases h
  refine ⟨[], rfl, fun r' => rfl, fun v w h hw => ?_⟩
  exact absurd (List.append_eq_nil_iff.1 h.symm).2 hw
theorem Good.err {α : Type} (e : Int) : Good (rErr (α := α) e) := by
  intro t b r h
  cases h
theorem Good.ite {α : Type} {c : Prop} [Decidable c] {m m' : Rd α} (h : Good m) (h' : Good m') : Good (if c then m else m') := by
  split
  · exact h
  · exact h'
theorem Good.bnd {α β : Type} {m : Rd α} {f : α → Rd β} (hm : Good m) (hf : ∀ a, Good (f a)) : Good (rBnd m f) := by
  intro t b r h
  obtain ⟨a, r1, h1, h2⟩ := rBnd_ok h
  obtain ⟨u, rfl, hu, hp⟩ := hm t a r1 h1
  obtain ⟨u', rfl, hu', hp'⟩ := hf a r1 b r h2
  refine ⟨u ++ u', by rw [List.append_assoc], fun r' => ?_, fun v w e hw => ?_⟩
  · rw [List.append_assoc, rBnd_at (hu _), hu']
  · rcases List.append_eq_append_iff.1 e with ⟨z, e1, e2⟩ | ⟨z, e1, e2⟩
    · subst e1
      rw [rBnd_at (hu z)]
      exact hp' z w e2 hw
    · subst e1
      cases z with
      | nil =>
        rw [List.append_nil] at hu hp
        rw [show v = v ++ [] by rw [List.append_nil], rBnd_at (hu [])]
        refine hp' [] u' rfl ?_
        rw [List.nil_append] at e2
        rw [← e2]
        exact hw
      | cons c z => exact rBnd_er (hp v (c :: z) rfl (by intro h; cases h))
theorem Good.cut (n : Nat) : Good (rCut n) := by
  intro t a r h
  unfold rCut at h
  split at h
  case isFalse => cases h
  rename_i hn
  cases h
  refine ⟨t.take n, (List.take_append_drop n t).symm, fun r' => ?_, fun v w e hw => ?_⟩
  · have hl : (t.take n).length = n := by rw [List.length_take]; omega
    unfold rCut
    rw [if_pos (by rw [List.length_append]; omega)]
    rw [List.take_append_of_le_length (by omega), List.drop_append_of_le_length (by omega), List.take_of_length_le (by omega), List.drop_of_length_le (by omega), List.nil_append]
  · have hl : (t.take n).length = n := by rw [List.length_take]; omega
    rw [e, List.length_append] at hl
    have : 0 < w.length := List.length_pos_iff.2 hw
    unfold rCut
    rw [if_neg (by omega)]
theorem Good.take (n : Nat) : Good (rTake n) := (Good.cut n).bnd fun _ => .ret _
theorem Good.count : Good rCount := (Good.take 4).bnd fun _ => .ite (.ret _) (.err _)
theorem Good.num : Good rNum := (Good.take 8).bnd fun _ => .ite ((Good.take 1).bnd fun _ => .ite (.ret _) (.err _)) (.err _)
theorem Good.op : Good rOp := (Good.take 1).bnd fun _ => (Good.take 1).bnd fun _ => .ite (Good.count.bnd fun _ => .ite ((Good.cut _).bnd fun _ => .ret _) (.err _)) (.ite (Good.count.bnd fun _ => .ret _) (.ret _))
theorem Good.ops : ∀ n, Good (rOps n)
  | 0 => .ret _
  | n + 1 => Good.op.bnd fun _ => (Good.ops n).bnd fun _ => .ret _
theorem Good.head : Good rHead := Good.num.bnd fun _ => Good.num.bnd fun _ => Good.num.bnd fun _ => Good.count.bnd fun _ => Good.count.bnd fun _ => Good.count.bnd fun _ => Good.count.bnd fun _ => Good.count.bnd fun _ => Good.count.bnd fun _ => .ite (.ret _) (.err _)
theorem Good.body : Good rBody := Good.head.bnd fun _ => (Good.ops _).bnd fun _ => .ret _

/-- what was read is what stands there -/
def Inv {α : Type} (m : Rd α) (E : α → List UInt8 → Prop) : Prop := ∀ t a r, m t = .ok (a, r) → ∃ u, t = u ++ r ∧ E a u
theorem Inv.cut (n : Nat) : Inv (rCut n) fun u v => v = u ∧ u.length = n := by
  intro t a r h
  unfold rCut at h
  split at h
  case isFalse => cases h
  cases h
  exact ⟨_, (List.take_append_drop n t).symm, rfl, by rw [List.length_take]; omega⟩
theorem Inv.bnd {α β : Type} {m : Rd α} {f : α → Rd β} {E : α → List UInt8 → Prop} {E' : α → β → List UInt8 → Prop} (hm : Inv m E) (hf : ∀ a u, E a u → Inv (f a) (E' a)) : Inv (rBnd m f) fun b w => ∃ a u u', w = u ++ u' ∧ E a u ∧ E' a b u' := by
  intro t b r h
  obtain ⟨a, r1, h1, h2⟩ := rBnd_ok h
  obtain ⟨u, rfl, hu⟩ := hm t a r1 h1
  obtain ⟨u', rfl, hu'⟩ := hf a u hu r1 b r h2
  exact ⟨u ++ u', by rw [List.append_assoc], a, u, u', rfl, hu, hu'⟩
theorem Inv.ret {α : Type} (a : α) : Inv (rRet a) fun b u => b = a ∧ u = [] := by
  intro t b r h
  cases h
  exact ⟨[], rfl, rfl, rfl⟩
theorem Inv.err {α : Type} (e : Int) (E : α → List UInt8 → Prop) : Inv (rErr (α := α) e) E := by
  intro t b r h
  cases h
theorem Inv.mono {α : Type} {m : Rd α} {E E' : α → List UInt8 → Prop} (h : Inv m E) (he : ∀ a u, E a u → E' a u) : Inv m E' := by
  intro t a r ht
  obtain ⟨u, h1, h2⟩ := h t a r ht
  exact ⟨u, h1, he a u h2⟩
theorem Inv.ite {α : Type} {c : Prop} [Decidable c] {m m' : Rd α} {E : α → List UInt8 → Prop} (h : c → Inv m E) (h' : ¬ c → Inv m' E) : Inv (if c then m else m') E := by
  split
  · exact h ‹_›
  · exact h' ‹_›
theorem Inv.take (n : Nat) : Inv (rTake n) fun v u => u = beU v n ∧ v < 256 ^ n :=
  ((Inv.cut n).bnd (E' := fun a b u => b = beN a ∧ u = []) fun _ _ _ => Inv.ret _).mono fun v u ⟨a, u1, u2, e, ⟨e1, e2⟩, e3, e4⟩ => by
    subst e1 e3 e4
    rw [List.append_nil] at e
    subst e
    refine ⟨(beU_beN _ _ e2).symm, ?_⟩
    have := beN_lt u
    rwa [e2] at this
theorem Inv.count : Inv rCount fun v u => u = beU v 4 ∧ v ≤ 2147483647 :=
  ((Inv.take 4).bnd (E' := fun a b u => b = a ∧ u = [] ∧ a ≤ 2147483647) fun a _ _ => Inv.ite (fun h => (Inv.ret _).mono fun _ _ ⟨e1, e2⟩ => ⟨e1, e2, h⟩) fun _ => Inv.err _ _).mono fun v u ⟨a, u1, u2, e, ⟨e1, _⟩, e3, e4, e5⟩ => by
    subst e1 e3 e4
    rw [List.append_nil] at e
    exact ⟨e, e5⟩
theorem u64_toI64 {v : Nat} (h : v < 256 ^ 8) : u64 (toI64 v) = (v : Int) := by
  have h : v < 18446744073709551616 := h
  unfold u64 toI64
  rw [IntKind.wrap_i64, wrapU64]
  omega
theorem toL_app (l m : List Int) : toL (l ++ m) = toL l ++ toL m := by
  unfold toL
  rw [List.map_append]
theorem i64R_toI64 (v : Nat) : i64R (toI64 v) := by
  unfold i64R toI64
  rw [IntKind.wrap_i64]
  omega
theorem Inv.num : Inv rNum fun x u => u = toL (numB x.1 x.2) ∧ i64R x.1 :=
  ((Inv.take 8).bnd (E' := fun v x u => ∃ f : Nat, f ≤ 1 ∧ x = (toI64 v, decide (f = 1)) ∧ u = beU f 1) fun v _ _ => Inv.ite (fun _ => ((Inv.take 1).bnd (E' := fun f x u => f ≤ 1 ∧ x = (toI64 v, decide (f = 1)) ∧ u = []) fun f _ _ => Inv.ite (fun h => (Inv.ret _).mono fun _ _ ⟨e1, e2⟩ => ⟨h, e1, e2⟩) fun _ => Inv.err _ _).mono fun x u ⟨f, u1, u2, e, ⟨e1, _⟩, e3, e4, e5⟩ => ⟨f, e3, e4, by rw [e, e1, e5, List.append_nil]⟩) fun _ => Inv.err _ _).mono fun x u ⟨v, u1, u2, e, ⟨e1, hv⟩, f, hf, e3, e4⟩ => by
    subst e3
    refine ⟨?_, i64R_toI64 v⟩
    unfold numB
    rw [toL_app, u64_toI64 hv, toL_be, e, e1, e4]
    have : f = 0 ∨ f = 1 := by omega
    rcases this with rfl | rfl <;> rfl
def opW (o : OpV) : Prop := i64R o.k ∧ i64R o.s ∧ i64R o.n ∧ o.b.size ≤ 65536
theorem u8_of {v : Nat} (h : v < 256) : u8 (v : Int) = (v : Int) := by
  unfold u8
  rw [IntKind.wrap_u8]
  omega
theorem u64_of {v : Nat} (h : v < 18446744073709551616) : u64 (v : Int) = (v : Int) := by
  unfold u64
  rw [wrapU64]
  omega
theorem bytesI_toL (b : List UInt8) : toL (bytesI ⟨⟨b⟩⟩) = b := by
  have h := toS_bytes ⟨⟨b⟩⟩
  unfold toS at h
  simpa using h
theorem i64R_0 : i64R 0 := ⟨by decide, by decide⟩
theorem two_bytes {k s : Nat} (hk : k < 256) (hs : s < 256) : toL [u8 (k : Int), u8 (s : Int)] = beU k 1 ++ beU s 1 := by
  unfold toL
  simp only [List.map_cons, List.map_nil, beU, u8_of hk, u8_of hs, Int.toNat_natCast, Nat.pow_zero, Nat.div_one, List.singleton_append]
theorem Inv.op : Inv rOp fun o u => u = toL (opB o) ∧ opW o ∧ o.b.size ≤ u.length := by
  unfold rOp
  refine Inv.mono (Inv.bnd (Inv.take 1) (E' := fun (k : Nat) (o : OpV) w => ∃ (s : Nat) (u : List UInt8), s < 256 ∧ w = beU s 1 ++ u ∧ o.k = (k : Int) ∧ o.s = (s : Int) ∧ i64R o.n ∧ o.b.size ≤ 65536 ∧ o.b.size ≤ u.length ∧ u = toL (if o.k = 3 then be (u64 (o.b.size : Int)) 4 ++ bytesI o.b else if o.k = 4 then be (u64 o.n) 4 else [])) fun k _ _ => ?_) ?_
  · refine Inv.mono (Inv.bnd (Inv.take 1) (E' := fun (s : Nat) (o : OpV) u => o.k = (k : Int) ∧ o.s = (s : Int) ∧ i64R o.n ∧ o.b.size ≤ 65536 ∧ o.b.size ≤ u.length ∧ u = toL (if o.k = 3 then be (u64 (o.b.size : Int)) 4 ++ bytesI o.b else if o.k = 4 then be (u64 o.n) 4 else [])) fun s _ _ => ?_) ?_
    · refine Inv.ite (fun hk => ?_) fun hk => Inv.ite (fun hk4 => ?_) fun hk4 => ?_
      · refine (Inv.count.bnd (E' := fun (n : Nat) (o : OpV) u => n ≤ 65536 ∧ ∃ b : List UInt8, b.length = n ∧ u = b ∧ o = ⟨k, s, ⟨⟨b⟩⟩, 0⟩) fun n _ _ => Inv.ite (fun h => ((Inv.cut n).bnd (E' := fun (b : List UInt8) (o : OpV) u => o = ⟨k, s, ⟨⟨b⟩⟩, 0⟩ ∧ u = []) fun b _ _ => Inv.ret _).mono ?_) fun _ => Inv.err _ _).mono ?_
        · rintro o u ⟨b, u1, u2, e, ⟨e1, e2⟩, e3, e4⟩
          subst e1 e4
          rw [List.append_nil] at e
          exact ⟨h, u1, e2, e, e3⟩
        · rintro o u ⟨n, u1, u2, e, ⟨e1, _⟩, e2, b, e3, e4, rfl⟩
          refine ⟨rfl, rfl, i64R_0, ?_, ?_, ?_⟩
          · show b.length ≤ 65536
            omega
          · show b.length ≤ u.length
            rw [e, e4, List.length_append]
            omega
          · rw [if_pos (show ((k : Nat) : Int) = 3 by omega), toL_app, bytesI_toL]
            show u = toL (be (u64 ((b.length : Nat) : Int)) 4) ++ b
            rw [u64_of (by omega), toL_be, e, e1, e3, e4]
      · refine (Inv.count.bnd (E' := fun (n : Nat) (o : OpV) u => o = ⟨k, s, ⟨⟨[]⟩⟩, n⟩ ∧ u = []) fun n _ _ => Inv.ret _).mono ?_
        rintro o u ⟨n, u1, u2, e, ⟨e1, e2⟩, rfl, rfl⟩
        refine ⟨rfl, rfl, ⟨by show _ ≤ (n : Int); omega, by show (n : Int) ≤ _; omega⟩, Nat.zero_le _, Nat.zero_le _, ?_⟩
        rw [if_neg (show ¬ ((k : Nat) : Int) = 3 by omega), if_pos (show ((k : Nat) : Int) = 4 by omega)]
        show u = toL (be (u64 ((n : Nat) : Int)) 4)
        rw [u64_of (by omega), toL_be, e, e1, List.append_nil]
      · refine (Inv.ret _).mono ?_
        rintro o u ⟨rfl, rfl⟩
        refine ⟨rfl, rfl, i64R_0, Nat.zero_le _, Nat.zero_le _, ?_⟩
        rw [if_neg (show ¬ ((k : Nat) : Int) = 3 by omega), if_neg (show ¬ ((k : Nat) : Int) = 4 by omega)]
        rfl
    · rintro o w ⟨s, u1, u2, e, ⟨e1, hs⟩, h⟩
      exact ⟨s, u2, by simpa using hs, by rw [e, e1], h⟩
  · rintro o w ⟨k, u1, u2, e, ⟨e1, hk⟩, s, u, hs, e2, h1, h2, h3, h4, h5, h6⟩
    have hk : k < 256 := by simpa using hk
    refine ⟨?_, ⟨?_, ?_, h3, h4⟩, ?_⟩
    · unfold opB
      rw [toL_app, h1, h2, two_bytes hk hs, ← h1, ← h6, e, e1, e2, List.append_assoc]
    · rw [h1]; exact ⟨by omega, by omega⟩
    · rw [h2]; exact ⟨by omega, by omega⟩
    · rw [e, e2, List.length_append, List.length_append]
      omega
theorem Inv.ops : ∀ n, Inv (rOps n) fun l u => u = toL (opsB l) ∧ l.length = n ∧ (∀ o ∈ l, opW o) ∧ totB l ≤ u.length
  | 0 => (Inv.ret _).mono fun l u ⟨e1, e2⟩ => by subst e1 e2; exact ⟨rfl, rfl, fun o h => (List.not_mem_nil h).elim, Nat.le_refl _⟩
  | n + 1 => (Inv.op.bnd (E' := fun o l u => ∃ l1, l = o :: l1 ∧ u = toL (opsB l1) ∧ l1.length = n ∧ (∀ o ∈ l1, opW o) ∧ totB l1 ≤ u.length) fun o _ _ =>
      ((Inv.ops n).bnd (E' := fun l1 l u => l = o :: l1 ∧ u = []) fun l1 _ _ => Inv.ret _).mono fun l u ⟨l1, u1, u2, e, h, e2, e3⟩ => ⟨l1, e2, by subst e3; rw [List.append_nil] at e; rw [e]; exact h⟩).mono fun l u ⟨o, u1, u2, e, ⟨h1, h2, h3⟩, l1, e1, g1, g2, g3, g4⟩ => by
    subst e1
    refine ⟨?_, by rw [List.length_cons, g2], ?_, ?_⟩
    · rw [e, h1, g1, ← toL_app]
      rfl
    · intro x hx
      rcases List.mem_cons.1 hx with rfl | hx
      · exact h2
      · exact g3 x hx
    · rw [e, List.length_append]
      show o.b.size + totB l1 ≤ _
      omega
def suW (s : Su) : Prop := i64R s.x ∧ i64R s.y ∧ i64R s.d
end Go.Proofs.YtfcjlgdpdomoeaaGreat.U
