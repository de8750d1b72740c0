/- The reader of scripts, in plain words: whole scripts, back and forth. -/
import Derived.Test.YtfcjlgdpdomoeaaGreatUQ
set_option linter.unusedSimpArgs false
set_option linter.unusedVariables false
namespace Go.Proofs.YtfcjlgdpdomoeaaGreat.U
open Go Go.Eng
theorem be4 {v : Nat} (h : v ≤ 2147483647) : toL (be (u64 (v : Int)) 4) = beU v 4 := by
  rw [u64_of (by omega), toL_be]
theorem inv_head {t r : List UInt8} {s : Su} {n : Nat} (h : rHead t = .ok ((s, n), r)) : t = toL (headB s n) ++ r ∧ su64 s ∧ n ≤ 400 := by
  obtain ⟨x, t1, h1, g1⟩ := rBnd_ok h
  obtain ⟨y, t2, h2, g2⟩ := rBnd_ok g1
  obtain ⟨d, t3, h3, g3⟩ := rBnd_ok g2
  obtain ⟨m, t4, h4, g4⟩ := rBnd_ok g3
  obtain ⟨ro, t5, h5, g5⟩ := rBnd_ok g4
  obtain ⟨ns, t6, h6, g6⟩ := rBnd_ok g5
  obtain ⟨nt, t7, h7, g7⟩ := rBnd_ok g6
  obtain ⟨nq, t8, h8, g8⟩ := rBnd_ok g7
  obtain ⟨n', t9, h9, g9⟩ := rBnd_ok g8
  obtain ⟨u1, rfl, e1, hx⟩ := Inv.num _ _ _ h1
  obtain ⟨u2, rfl, e2, hy⟩ := Inv.num _ _ _ h2
  obtain ⟨u3, rfl, e3, hd⟩ := Inv.num _ _ _ h3
  obtain ⟨u4, rfl, e4, b4⟩ := Inv.count _ _ _ h4
  obtain ⟨u5, rfl, e5, b5⟩ := Inv.count _ _ _ h5
  obtain ⟨u6, rfl, e6, b6⟩ := Inv.count _ _ _ h6
  obtain ⟨u7, rfl, e7, b7⟩ := Inv.count _ _ _ h7
  obtain ⟨u8, rfl, e8, b8⟩ := Inv.count _ _ _ h8
  obtain ⟨u9, rfl, e9, b9⟩ := Inv.count _ _ _ h9
  split at g9
  case isFalse => cases g9
  rename_i hn
  cases g9
  refine ⟨?_, ⟨hx, hy, hd⟩, hn⟩
  unfold headB
  simp only [toL_app]
  rw [be4 b4, be4 b5, be4 b6, be4 b7, be4 b8, be4 b9, e1, e2, e3, e4, e5, e6, e7, e8, e9]
  simp only [List.append_assoc]
theorem inv_body {t r : List UInt8} {s : Su} {l : List OpV} (h : rBody t = .ok ((s, l), r)) : t = toL (headB s l.length ++ opsB l) ++ r ∧ su64 s ∧ l.length ≤ 400 ∧ (∀ o ∈ l, opW o) ∧ totB l ≤ t.length := by
  obtain ⟨⟨s', n⟩, t1, h1, g1⟩ := rBnd_ok h
  obtain ⟨l', t2, h2, g2⟩ := rBnd_ok g1
  cases g2
  obtain ⟨rfl, hs, hn⟩ := inv_head h1
  obtain ⟨u, rfl, e, hl, hw, ht⟩ := Inv.ops _ _ _ _ h2
  have hl : l.length = n := hl
  subst hl
  refine ⟨?_, hs, hn, hw, ?_⟩
  · rw [toL_app, e, List.append_assoc]
  · rw [List.length_append, List.length_append]
    omega
theorem inv_script {t r : List UInt8} {s : Su} {l : List OpV} (h : rScript t = .ok ((s, l), r)) : t = toL (headB s l.length ++ opsB l) ∧ su64 s ∧ l.length ≤ 400 ∧ (∀ o ∈ l, opW o) ∧ totB l ≤ t.length := by
  obtain ⟨a, t1, h1, g1⟩ := rBnd_ok h
  obtain ⟨_, t2, h2, g2⟩ := rBnd_ok g1
  cases g2
  unfold rEnd at h2
  split at h2
  case isFalse => cases h2
  rename_i ht
  subst ht
  have := inv_body h1
  rwa [List.append_nil] at this

theorem fwd_cut (u r : List UInt8) : rCut u.length (u ++ r) = .ok (u, r) := by
  unfold rCut
  rw [if_pos (by rw [List.length_append]; omega)]
  rw [List.take_append_of_le_length (by omega), List.drop_append_of_le_length (by omega), List.take_of_length_le (by omega), List.drop_of_length_le (by omega), List.nil_append]
theorem fwd_take {v n : Nat} (h : v < 256 ^ n) (r : List UInt8) : rTake n (beU v n ++ r) = .ok (v, r) := by
  unfold rTake
  have h1 := fwd_cut (beU v n) r
  rw [beU_len] at h1
  rw [rBnd_at h1, beN_beU, Nat.mod_eq_of_lt h]
  rfl
theorem fwd_count {v : Nat} (h : v ≤ 2147483647) (r : List UInt8) : rCount (beU v 4 ++ r) = .ok (v, r) := by
  unfold rCount
  rw [rBnd_at (fwd_take (by have : (256 : Nat) ^ 4 = 4294967296 := rfl; omega) r), if_pos h]
  rfl
theorem u64_nat (x : Int) : ∃ v : Nat, u64 x = (v : Int) ∧ v < 256 ^ 8 ∧ (i64R x → toI64 v = x) := by
  have h1 : 0 ≤ u64 x ∧ u64 x ≤ 18446744073709551615 := by unfold u64; rw [wrapU64]; omega
  refine ⟨(u64 x).toNat, by omega, ?_, fun hx => ?_⟩
  · have : (256 : Nat) ^ 8 = 18446744073709551616 := rfl
    omega
  · obtain ⟨a, b⟩ := hx
    have e : ((u64 x).toNat : Int) = u64 x := by omega
    unfold toI64
    rw [e]
    unfold u64
    rw [IntKind.wrap_i64, wrapU64]
    omega
theorem fwd_num {x : Int} {f : Bool} (hx : i64R x) (hm : x ≠ -9223372036854775808) (r : List UInt8) : rNum (toL (numB x f) ++ r) = .ok ((x, f), r) := by
  obtain ⟨v, e1, hv, e2⟩ := u64_nat x
  unfold numB rNum
  rw [toL_app, e1, toL_be, List.append_assoc, rBnd_at (fwd_take hv _), e2 hx, if_pos hm]
  cases f with
  | true =>
    have e : toL [fl true] = beU 1 1 := rfl
    rw [e, rBnd_at (fwd_take (by decide) r), if_pos (by decide)]
    rfl
  | false =>
    have e : toL [fl false] = beU 0 1 := rfl
    rw [e, rBnd_at (fwd_take (by decide) r), if_pos (by decide)]
    rfl
theorem opE_0 {o : OpV} (h : opE o.k o.s o.b o.n = 0) : 1 ≤ o.k ∧ o.k ≤ 5 ∧ 0 ≤ o.s ∧ o.s ≤ 16 ∧ 0 ≤ o.n ∧ o.n ≤ 65536 ∧ (o.k ≠ 3 → o.b.data.toList = []) ∧ (o.k ≠ 4 → o.n = 0) := by
  unfold opE at h
  have hb : o.k ≠ 3 → o.b.data.toList = [] := by
    intro h3
    generalize o.b.data.toList = l at *
    by_cases hl : l = []
    · exact hl
    · exfalso
      simp only [hl, not_false_eq_true, and_true] at h
      repeat' split at h
      all_goals omega
  refine ⟨?_, ?_, ?_, ?_, ?_, ?_, hb, ?_⟩
  all_goals
    generalize o.b.data.toList = l at *
    repeat' split at h
    all_goals omega
theorem fwd_op {o : OpV} (h : opE o.k o.s o.b o.n = 0) (hb : o.b.size ≤ 65536) (r : List UInt8) : rOp (toL (opB o) ++ r) = .ok (o, r) := by
  obtain ⟨k1, k2, s1, s2, n1, n2, h3, h4⟩ := opE_0 h
  obtain ⟨k, s, b, n⟩ := o
  obtain ⟨k, rfl⟩ : ∃ j : Nat, k = (j : Int) := ⟨k.toNat, by simp only at *; omega⟩
  obtain ⟨s, rfl⟩ : ∃ j : Nat, s = (j : Int) := ⟨s.toNat, by simp only at *; omega⟩
  obtain ⟨n, rfl⟩ : ∃ j : Nat, n = (j : Int) := ⟨n.toNat, by simp only at *; omega⟩
  simp only at k1 k2 s1 s2 n1 n2 h3 h4 hb
  unfold opB
  rw [toL_app]
  simp only
  rw [two_bytes (by omega) (by omega), List.append_assoc, List.append_assoc]
  unfold rOp
  rw [rBnd_at (fwd_take (by omega : k < 256 ^ 1) _), rBnd_at (fwd_take (by omega : s < 256 ^ 1) _)]
  by_cases hk : k = 3
  · subst hk
    have hn := h4 (by decide)
    obtain rfl : n = 0 := by omega
    rw [if_pos rfl, if_pos (show ((3 : Nat) : Int) = 3 from rfl), toL_app, u64_of (by omega), toL_be, List.append_assoc, rBnd_at (fwd_count (by omega) _), if_pos hb]
    have e : toL (bytesI b) = b.data.toList := bytesI_toL b.data.toList
    rw [e]
    have e2 : rCut b.size (b.data.toList ++ r) = .ok (b.data.toList, r) := fwd_cut b.data.toList r
    rw [rBnd_at e2]
    rfl
  · have eb : b.data.toList = [] := h3 (by omega)
    have eb : b = ⟨⟨[]⟩⟩ := by
      obtain ⟨⟨b⟩⟩ := b
      have : b = [] := eb
      rw [this]
    subst eb
    rw [if_neg hk, if_neg (show ¬ ((k : Nat) : Int) = 3 by omega)]
    by_cases hk4 : k = 4
    · subst hk4
      rw [if_pos rfl, if_pos (show ((4 : Nat) : Int) = 4 from rfl), u64_of (by omega), toL_be, rBnd_at (fwd_count (by omega) _)]
      rfl
    · have hn := h4 (by omega)
      obtain rfl : n = 0 := by omega
      rw [if_neg hk4, if_neg (show ¬ ((k : Nat) : Int) = 4 by omega)]
      rfl
theorem fwd_ops : ∀ (l : List OpV), (∀ o ∈ l, opE o.k o.s o.b o.n = 0 ∧ o.b.size ≤ 65536) → ∀ r, rOps l.length (toL (opsB l) ++ r) = .ok (l, r)
  | [], _, r => rfl
  | o :: l, h, r => by
    show rBnd rOp _ (toL (opB o ++ opsB l) ++ r) = _
    have h1 := h o (List.mem_cons_self ..)
    rw [toL_app, List.append_assoc, rBnd_at (fwd_op h1.1 h1.2 _), rBnd_at (fwd_ops l (fun o ho => h o (List.mem_cons_of_mem _ ho)) r)]
    rfl
structure suF (s : Su) : Prop where
  x : s.x ≠ -9223372036854775808
  y : s.y ≠ -9223372036854775808
  d : s.d ≠ -9223372036854775808
  m : 0 ≤ s.m ∧ s.m ≤ 2147483647
  r : 0 ≤ s.r ∧ s.r ≤ 2147483647
  ns : 0 ≤ s.ns ∧ s.ns ≤ 2147483647
  nt : 0 ≤ s.nt ∧ s.nt ≤ 2147483647
  nq : 0 ≤ s.nq ∧ s.nq ≤ 2147483647
theorem be4i {z : Int} (h : 0 ≤ z ∧ z ≤ 2147483647) : ∃ v : Nat, z = (v : Int) ∧ v ≤ 2147483647 ∧ toL (be (u64 z) 4) = beU v 4 := by
  obtain ⟨v, rfl⟩ : ∃ v : Nat, z = (v : Int) := ⟨z.toNat, by omega⟩
  exact ⟨v, rfl, by omega, be4 (by omega)⟩
theorem fwd_head {s : Su} {n : Nat} (hs : su64 s) (hf : suF s) (hn : n ≤ 400) (r : List UInt8) : rHead (toL (headB s n) ++ r) = .ok ((s, n), r) := by
  obtain ⟨x, y, d, m, ro, ns, nt, nq, fx, fy, fd⟩ := s
  obtain ⟨hx, hy, hd⟩ := hs
  obtain ⟨fx', fy', fd', hm, hr, hns, hnt, hnq⟩ := hf
  simp only at *
  obtain ⟨m, rfl, b1, e1⟩ := be4i hm
  obtain ⟨ro, rfl, b2, e2⟩ := be4i hr
  obtain ⟨ns, rfl, b3, e3⟩ := be4i hns
  obtain ⟨nt, rfl, b4, e4⟩ := be4i hnt
  obtain ⟨nq, rfl, b5, e5⟩ := be4i hnq
  unfold headB rHead
  simp only [toL_app, List.append_assoc]
  rw [e1, e2, e3, e4, e5, be4 (by omega : n ≤ 2147483647)]
  rw [rBnd_at (fwd_num hx fx' _), rBnd_at (fwd_num hy fy' _), rBnd_at (fwd_num hd fd' _), rBnd_at (fwd_count b1 _), rBnd_at (fwd_count b2 _), rBnd_at (fwd_count b3 _), rBnd_at (fwd_count b4 _), rBnd_at (fwd_count b5 _), rBnd_at (fwd_count (by omega) _), if_pos hn]
  rfl
theorem fwd_body {s : Su} {l : List OpV} (hs : su64 s) (hf : suF s) (hn : l.length ≤ 400) (hl : ∀ o ∈ l, opE o.k o.s o.b o.n = 0 ∧ o.b.size ≤ 65536) (r : List UInt8) : rBody (toL (headB s l.length ++ opsB l) ++ r) = .ok ((s, l), r) := by
  unfold rBody
  rw [toL_app, List.append_assoc, rBnd_at (fwd_head hs hf hn _)]
  rw [rBnd_at (fwd_ops l hl r)]
  rfl
/-- a script's bytes, read -/
theorem read_back {s : Su} {l : List OpV} (hs : su64 s) (hf : suF s) (hn : l.length ≤ 400) (hl : ∀ o ∈ l, opE o.k o.s o.b o.n = 0 ∧ o.b.size ≤ 65536) : rScript (toL (headB s l.length ++ opsB l)) = .ok ((s, l), []) := by
  have h := fwd_body hs hf hn hl []
  rw [List.append_nil] at h
  unfold rScript
  rw [rBnd_at h]
  rfl
/-- .. with something behind them -/
theorem read_more {s : Su} {l : List OpV} (hs : su64 s) (hf : suF s) (hn : l.length ≤ 400) (hl : ∀ o ∈ l, opE o.k o.s o.b o.n = 0 ∧ o.b.size ≤ 65536) {r : List UInt8} (hr : r ≠ []) : rScript (toL (headB s l.length ++ opsB l) ++ r) = .error 6 := by
  unfold rScript
  rw [rBnd_at (fwd_body hs hf hn hl r)]
  refine rBnd_er ?_
  unfold rEnd
  rw [if_neg hr]
/-- .. cut short -/
theorem read_short {s : Su} {l : List OpV} (hs : su64 s) (hf : suF s) (hn : l.length ≤ 400) (hl : ∀ o ∈ l, opE o.k o.s o.b o.n = 0 ∧ o.b.size ≤ 65536) {n : Nat} (h : n < (toL (headB s l.length ++ opsB l)).length) : rScript ((toL (headB s l.length ++ opsB l)).take n) = .error 7 := by
  have h1 := fwd_body hs hf hn hl []
  rw [List.append_nil] at h1
  generalize toL (headB s l.length ++ opsB l) = t at *
  obtain ⟨u, e, _, hp⟩ := Good.body t _ _ h1
  rw [List.append_nil] at e
  subst e
  unfold rScript
  refine rBnd_er (hp (t.take n) (t.drop n) (List.take_append_drop n t).symm ?_)
  intro hd
  have := congrArg List.length hd
  rw [List.length_drop, List.length_nil] at this
  omega
end Go.Proofs.YtfcjlgdpdomoeaaGreat.U
