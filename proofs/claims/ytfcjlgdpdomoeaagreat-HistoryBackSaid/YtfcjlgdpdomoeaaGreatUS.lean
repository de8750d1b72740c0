/- The reader of scripts: what the functions say. -/
import Derived.Test.YtfcjlgdpdomoeaaGreatUR
import Derived.Test.YtfcjlgdpdomoeaaGreatEngS4
set_option linter.unusedSimpArgs false
set_option linter.unusedVariables false
namespace Go.Proofs.YtfcjlgdpdomoeaaGreat.U
open Go Go.Eng
/-- a call that answers, or panics -/
def Tells (c p : Ctr Tryz.prog) (ss ls : List Value) (x : Except Int (List Value × List Value)) : Prop := match x with
  | .ok v => c.F ss ls = some v
  | .error e => c.F ss ls = none ∧ p.F ss ls = some ([.int .i64 e], noL)
theorem evK_qT {α β : Type} {cs : List (Ctr Tryz.prog)} {K : α → Env → Option β} {i j : Nat} {c p : Ctr Tryz.prog} {s : Sub} {a b : Tr α} {n m : Nat} {env : Env} (x : Except Int (List Value × List Value)) (hc : cs[i]? = some c) (hp : cs[j]? = some p)
    (h : Tells c p (s.ss.map (den env.s)) (s.ls.map fun y => denX env.s env.l y.1) x) : evK cs K (.q i j s a b) n m env = match x with
      | .ok v => evK cs K a (Nat.add n c.post.ns) (Nat.add m c.post.nl) ⟨updL env.s n v.1, updL env.l m v.2⟩
      | .error e => evK cs K b (Nat.add n p.post.ns) (Nat.add m p.post.nl) ⟨updL env.s n [.int .i64 e], updL env.l m noL⟩ := by
  cases x with
  | ok v => exact evK_q1 v.1 v.2 hc hp h
  | error e => exact evK_q2 _ _ hc hp h.1 h.2
abbrev sT (t : List UInt8) : Value := .string ⟨⟨t⟩⟩
def outX {α : Type} (f : α → List Value) : Except Int (α × List UInt8) → Except Int (List Value × List Value)
  | .ok (a, r) => .ok (sT r :: f a, noL)
  | .error e => .error e
theorem qcut_cF (l k : List Value) : qcut_c.F l k = CFn.F (P := Tryz.prog) [] qcut_f l k := by kernel_rfl
theorem qcutp_cF (l k : List Value) : qcutp_c.F l k = CFn.F (P := Tryz.prog) [] qcutp_f l k := by kernel_rfl
theorem len_sev (t : List UInt8) : sev (.len true) [sT t] = some (.int .i64 (t.length : Int)) := rfl
theorem cut_T (t : List UInt8) (n : Nat) : Tells qcut_c qcutp_c [sT t, .int .i64 (n : Int)] noL (outX (fun u => [sT u]) (rCut n t)) := by
  unfold rCut
  by_cases hn : n ≤ t.length
  · rw [if_pos hn]
    show qcut_c.F _ _ = some _
    rw [qcut_cF]
    refine CFn.flat _ rfl ?_
    refine Eq.trans (evK_d _ (len_sev t)) ?_
    refine Eq.trans (evK_t (decide ((t.length : Int) ≥ (n : Int))) rfl) ?_
    rw [decide_eq_true (by omega), cond_true]
    refine Eq.trans (evK_d _ (sub_to t n hn)) ?_
    refine Eq.trans (evK_d _ (sub_from t n hn)) ?_
    rfl
  · rw [if_neg hn]
    refine ⟨?_, ?_⟩
    · rw [qcut_cF]
      refine Eq.trans (CFn.flatE _ rfl) ?_
      refine Eq.trans (evK_d _ (len_sev t)) ?_
      refine Eq.trans (evK_t (decide ((t.length : Int) ≥ (n : Int))) rfl) ?_
      rw [decide_eq_false (by omega), cond_false]
      rfl
    · rw [qcutp_cF]
      refine CFn.flat _ rfl ?_
      refine Eq.trans (evK_d _ (len_sev t)) ?_
      refine Eq.trans (evK_t (decide ((t.length : Int) ≥ (n : Int))) rfl) ?_
      rw [decide_eq_false (by omega), cond_false]
      rfl
noncomputable abbrev qD1 : List (Ctr Tryz.prog) := [qcut_c, qcutp_c]
theorem BV.len {V : Value} {l : List Int} (h : BV V l) : lsev .len [V] = some (.int .i64 (l.length : Int)) := by
  have h' : lrows V = some (rowB l) := h
  simp only [lsev, h', Option.map_some, rowB, List.length_map]
  rfl
def plB (n : Int) : Value := .iface 0 (.agg ⟨[.int .u8 n]⟩)
theorem BV.elem {V : Value} {c : List Int} (h : BV V c) {i : Nat} {n : Int} (hi : c[i]? = some n) : lsev (.iad 1) [V, .int .i64 (i : Int)] = some (plB n) := by
  have h' : lrows V = some (rowB c) := h
  have h2 : (rowB c)[i]? = some [.int .u8 n] := by unfold rowB; rw [List.getElem?_map, hi]; rfl
  simp only [lsev, h', int1_nat, h2]
  rfl
theorem shl8 {v : Nat} (h : v < 256 ^ 7) : sev (.bin .shl) [.int .u64 (v : Int), .int .u64 8] = some (.int .u64 ((v * 256 : Nat) : Int)) := by
  have h : v < 72057594037927936 := h
  show some (Value.int .u64 (IntKind.u64.wrap ((v : Int) * 2 ^ 8))) = _
  rw [wrapU64]
  congr 2
  omega
theorem or8 {v b : Nat} (h : v < 256 ^ 7) (hb : b < 256) : sev (.bin .or) [.int .u64 ((v * 256 : Nat) : Int), .int .u64 (b : Int)] = some (.int .u64 ((v * 256 + b : Nat) : Int)) := by
  have h : v < 72057594037927936 := h
  show some (Value.int .u64 (IntKind.u64.wrap (((BitVec.ofInt 64 ((v * 256 : Nat) : Int)) ||| (BitVec.ofInt 64 (b : Int))).toNat : Int))) = _
  rw [BitVec.ofInt_natCast, BitVec.ofInt_natCast, BitVec.toNat_or, BitVec.toNat_ofNat, BitVec.toNat_ofNat, Nat.mod_eq_of_lt (by omega), Nat.mod_eq_of_lt (by omega)]
  have e : v * 256 ||| b = v * 256 + b := by
    have := Nat.two_pow_add_eq_or_of_lt (i := 8) (b := b) (by omega) v
    rw [Nat.mul_comm v 256]
    exact this.symm
  rw [e, wrapU64]
  congr 2
  omega
theorem beN_take {u : List UInt8} {i : Nat} {b : UInt8} (h : u[i]? = some b) : beN (u.take (i + 1)) = beN (u.take i) * 256 + b.toNat := by
  rw [List.take_add_one, h]
  exact beN_snoc b _
theorem beN_take_lt (u : List UInt8) {i : Nat} (h : i < u.length) (h8 : u.length ≤ 8) : beN (u.take i) < 256 ^ 7 := by
  have h1 := beN_lt (u.take i)
  have h2 : 256 ^ (u.take i).length ≤ 256 ^ 7 := Nat.pow_le_pow_right (by decide) (by rw [List.length_take]; omega)
  omega
def bI (u : List UInt8) : List Int := u.map fun x => (x.toNat : Int)
theorem take_1 (cs : List (Ctr Tryz.prog)) (u r : List UInt8) (h8 : u.length ≤ 8) {V : Value} (hV : BV V (bI u)) : ∀ (k i : Nat), i ≤ u.length → u.length - i < k → runT cs qtake_f k 1 [sT r, .int .u64 (beN (u.take i) : Int), .int .i64 (u.length : Int), .int .i64 (i : Int)] [V] = some ([sT r, .int .u64 (beN u : Int)], noL) := by
  intro k
  induction k with
  | zero => intro i _ h; omega
  | succ k ih =>
    intro i hi hk
    refine Eq.trans (CFn.step _ rfl) ?_
    refine Eq.trans (evK_t (decide ((i : Int) < (u.length : Int))) rfl) ?_
    by_cases hlt : i < u.length
    · rw [decide_eq_true (by omega : (i : Int) < (u.length : Int)), cond_true]
      have hb : u[i]? = some u[i] := List.getElem?_eq_getElem hlt
      generalize u[i] = b at hb
      have hbi : (bI u)[i]? = some (b.toNat : Int) := by unfold bI; rw [List.getElem?_map, hb]; rfl
      have hlt2 := beN_take_lt u hlt h8
      have hb8 : b.toNat < 256 := b.toNat_lt
      refine Eq.trans (evK_e (plB (b.toNat : Int)) (hV.elem hbi) rfl) ?_
      refine Eq.trans (evK_l [.int .u8 (b.toNat : Int)] [.int .u8 (b.toNat : Int)] [] rfl rfl) ?_
      refine Eq.trans (evK_d _ (shl8 hlt2)) ?_
      refine Eq.trans (evK_d (.int .u64 (b.toNat : Int)) (by
        show some (Value.int .u64 (IntKind.u64.wrap (b.toNat : Int))) = _
        rw [wrapU64, Int.emod_eq_of_lt (by omega) (by omega)])) ?_
      refine Eq.trans (evK_d _ (or8 hlt2 hb8)) ?_
      refine Eq.trans (evK_d (.int .i64 ((i + 1 : Nat) : Int)) (inc_sev hlt (by omega))) ?_
      rw [← beN_take hb]
      exact ih (i + 1) (by omega) (by omega)
    · have : i = u.length := by omega
      subst this
      rw [decide_eq_false (by omega), cond_false, List.take_length]
      rfl
theorem takep_1 (cs : List (Ctr Tryz.prog)) (u r : List UInt8) (h8 : u.length ≤ 8) {V : Value} (hV : BV V (bI u)) : ∀ (k i : Nat), i ≤ u.length → runT cs qtakep_f k 1 [sT r, .int .u64 (beN (u.take i) : Int), .int .i64 (u.length : Int), .int .i64 (i : Int)] [V] = none := by
  intro k
  induction k with
  | zero => intro i _; rfl
  | succ k ih =>
    intro i hi
    refine Eq.trans (CFn.step _ rfl) ?_
    refine Eq.trans (evK_t (decide ((i : Int) < (u.length : Int))) rfl) ?_
    by_cases hlt : i < u.length
    · rw [decide_eq_true (by omega : (i : Int) < (u.length : Int)), cond_true]
      have hb : u[i]? = some u[i] := List.getElem?_eq_getElem hlt
      generalize u[i] = b at hb
      have hbi : (bI u)[i]? = some (b.toNat : Int) := by unfold bI; rw [List.getElem?_map, hb]; rfl
      have hlt2 := beN_take_lt u hlt h8
      have hb8 : b.toNat < 256 := b.toNat_lt
      refine Eq.trans (evK_e (plB (b.toNat : Int)) (hV.elem hbi) rfl) ?_
      refine Eq.trans (evK_l [.int .u8 (b.toNat : Int)] [.int .u8 (b.toNat : Int)] [] rfl rfl) ?_
      refine Eq.trans (evK_d _ (shl8 hlt2)) ?_
      refine Eq.trans (evK_d (.int .u64 (b.toNat : Int)) (by
        show some (Value.int .u64 (IntKind.u64.wrap (b.toNat : Int))) = _
        rw [wrapU64, Int.emod_eq_of_lt (by omega) (by omega)])) ?_
      refine Eq.trans (evK_d _ (or8 hlt2 hb8)) ?_
      refine Eq.trans (evK_d (.int .i64 ((i + 1 : Nat) : Int)) (inc_sev hlt (by omega))) ?_
      rw [← beN_take hb]
      exact ih (i + 1) (by omega)
    · rw [decide_eq_false (by omega), cond_false]
      rfl
theorem qtake_cF (l k : List Value) : qtake_c.F l k = CFn.F (P := Tryz.prog) qD1 qtake_f l k := by kernel_rfl
theorem qtakep_cF (l k : List Value) : qtakep_c.F l k = CFn.F (P := Tryz.prog) qD1 qtakep_f l k := by kernel_rfl
def natV (v : Nat) : List Value := [.int .u64 (v : Int)]
theorem take_T (t : List UInt8) {n : Nat} (hn : n ≤ 8) : Tells qtake_c qtakep_c [sT t, .int .i64 (n : Int)] noL (outX natV (rTake n t)) := by
  have hc := cut_T t n
  unfold rTake rBnd
  cases h : rCut n t with
  | ok x =>
    obtain ⟨u, r⟩ := x
    rw [h] at hc
    have hu : u.length = n := by obtain ⟨_, _, _, e⟩ := Inv.cut n t u r h; exact e
    subst hu
    show qtake_c.F _ _ = some ([sT r, .int .u64 (beN u : Int)], noL)
    rw [qtake_cF]
    refine CFn.begin (u.length + 2) (by unfold manyK; omega) ?_
    refine Eq.trans (CFn.step _ rfl) ?_
    refine Eq.trans (evK_qT _ rfl rfl hc) ?_
    refine Eq.trans (evK_e _ (ofs_sev ⟨⟨u⟩⟩) rfl) ?_
    have hV : BV (Eng.lv (rowB (bytesI ⟨⟨u⟩⟩))) (bI u) := BV.lv _
    have hl : (bI u).length = u.length := by unfold bI; rw [List.length_map]
    refine Eq.trans (evK_es _ hV.len rfl) ?_
    rw [hl]
    exact take_1 qD1 u r hn hV (u.length + 1) 0 (by omega) (by omega)
  | error e =>
    rw [h] at hc
    refine ⟨?_, ?_⟩
    · rw [qtake_cF]
      refine Eq.trans (CFn.flatE _ rfl) ?_
      refine Eq.trans (evK_qT _ rfl rfl hc) ?_
      rfl
    · rw [qtakep_cF]
      refine CFn.flat _ rfl ?_
      refine Eq.trans (evK_qT _ rfl rfl hc) ?_
      rfl
noncomputable abbrev qD2 : List (Ctr Tryz.prog) := [qtake_c, qtakep_c]
theorem qcount_cF (l k : List Value) : qcount_c.F l k = CFn.F (P := Tryz.prog) qD2 qcount_f l k := by kernel_rfl
theorem qcountp_cF (l k : List Value) : qcountp_c.F l k = CFn.F (P := Tryz.prog) qD2 qcountp_f l k := by kernel_rfl
def natI (v : Nat) : List Value := [.int .i64 (v : Int)]
theorem leq_sev (v : Nat) (n : Int) (m : Nat) (h : n = (m : Int)) : sev (.bin .leq) [.int .u64 (v : Int), .int .u64 n] = some (.bool (decide (v ≤ m))) := by
  subst h
  show some (Value.bool (decide ((v : Int) ≤ (m : Int)))) = _
  rw [decide_eq_decide.2 Int.ofNat_le]
theorem conv_i64 {v : Nat} (h : v ≤ 2147483647) : sev (.conv .i64) [.int .u64 (v : Int)] = some (.int .i64 (v : Int)) := by
  show some (Value.int .i64 (IntKind.i64.wrap (v : Int))) = _
  rw [wrap_in (by unfold i64R; omega)]
theorem count_T (t : List UInt8) : Tells qcount_c qcountp_c [sT t] noL (outX natI (rCount t)) := by
  have hc := take_T t (n := 4) (by omega)
  unfold rCount rBnd
  cases h : rTake 4 t with
  | ok x =>
    obtain ⟨v, r⟩ := x
    rw [h] at hc
    simp only
    by_cases hv : v ≤ 2147483647
    · rw [if_pos hv]
      show qcount_c.F _ _ = some ([sT r, .int .i64 (v : Int)], noL)
      rw [qcount_cF]
      refine CFn.flat _ rfl ?_
      refine Eq.trans (evK_qT _ rfl rfl hc) ?_
      refine Eq.trans (evK_t _ (leq_sev v 2147483647 2147483647 rfl)) ?_
      rw [decide_eq_true hv, cond_true]
      refine Eq.trans (evK_d _ (conv_i64 hv)) ?_
      rfl
    · rw [if_neg hv]
      refine ⟨?_, ?_⟩
      · rw [qcount_cF]
        refine Eq.trans (CFn.flatE _ rfl) ?_
        refine Eq.trans (evK_qT _ rfl rfl hc) ?_
        refine Eq.trans (evK_t _ (leq_sev v 2147483647 2147483647 rfl)) ?_
        rw [decide_eq_false hv, cond_false]
        rfl
      · rw [qcountp_cF]
        refine CFn.flat _ rfl ?_
        refine Eq.trans (evK_qT _ rfl rfl hc) ?_
        refine Eq.trans (evK_t _ (leq_sev v 2147483647 2147483647 rfl)) ?_
        rw [decide_eq_false hv, cond_false]
        rfl
  | error e =>
    rw [h] at hc
    refine ⟨?_, ?_⟩
    · rw [qcount_cF]
      refine Eq.trans (CFn.flatE _ rfl) ?_
      refine Eq.trans (evK_qT _ rfl rfl hc) ?_
      rfl
    · rw [qcountp_cF]
      refine CFn.flat _ rfl ?_
      refine Eq.trans (evK_qT _ rfl rfl hc) ?_
      rfl
theorem qnum_cF (l k : List Value) : qnum_c.F l k = CFn.F (P := Tryz.prog) qD2 qnum_f l k := by kernel_rfl
theorem qnump_cF (l k : List Value) : qnump_c.F l k = CFn.F (P := Tryz.prog) qD2 qnump_f l k := by kernel_rfl
def numV (x : Int × Bool) : List Value := [.int .i64 x.1, .bool x.2]
theorem eq1_sev (v : Nat) : sev (.bin .eql) [.int .u64 (v : Int), .int .u64 1] = some (.bool (decide (v = 1))) := by
  show some (Value.bool ((v : Int) == 1)) = _
  congr 2
  by_cases h : v = 1
  · subst h; rfl
  · rw [decide_eq_false h, beq_false_of_ne (by omega)]
theorem num_T (t : List UInt8) : Tells qnum_c qnump_c [sT t] noL (outX numV (rNum t)) := by
  have hc := take_T t (n := 8) (by omega)
  unfold rNum rBnd
  cases h : rTake 8 t with
  | ok x =>
    obtain ⟨v, r⟩ := x
    rw [h] at hc
    simp only
    have e3 : sev (.conv .i64) [.int .u64 (v : Int)] = some (.int .i64 (toI64 v)) := rfl
    by_cases hv : toI64 v ≠ -9223372036854775808
    · rw [if_pos hv]
      have hc2 := take_T r (n := 1) (by omega)
      cases h2 : rTake 1 r with
      | ok x =>
        obtain ⟨f, r2⟩ := x
        rw [h2] at hc2
        simp only
        by_cases hf : f ≤ 1
        · rw [if_pos hf]
          show qnum_c.F _ _ = some ([sT r2, .int .i64 (toI64 v), .bool (decide (f = 1))], noL)
          rw [qnum_cF]
          refine CFn.flat _ rfl ?_
          refine Eq.trans (evK_qT _ rfl rfl hc) ?_
          refine Eq.trans (evK_d _ e3) ?_
          refine Eq.trans (evK_t (toI64 v != -9223372036854775808) rfl) ?_
          rw [bne_iff_ne.2 hv, cond_true]
          refine Eq.trans (evK_qT _ rfl rfl hc2) ?_
          refine Eq.trans (evK_t _ (leq_sev f 1 1 rfl)) ?_
          rw [decide_eq_true hf, cond_true]
          refine Eq.trans (evK_t _ (eq1_sev f)) ?_
          by_cases h1 : f = 1
          · rw [decide_eq_true h1]
            rfl
          · rw [decide_eq_false h1]
            rfl
        · rw [if_neg hf]
          refine ⟨?_, ?_⟩
          · rw [qnum_cF]
            refine Eq.trans (CFn.flatE _ rfl) ?_
            refine Eq.trans (evK_qT _ rfl rfl hc) ?_
            refine Eq.trans (evK_d _ e3) ?_
            refine Eq.trans (evK_t (toI64 v != -9223372036854775808) rfl) ?_
            rw [bne_iff_ne.2 hv, cond_true]
            refine Eq.trans (evK_qT _ rfl rfl hc2) ?_
            refine Eq.trans (evK_t _ (leq_sev f 1 1 rfl)) ?_
            rw [decide_eq_false hf, cond_false]
            rfl
          · rw [qnump_cF]
            refine CFn.flat _ rfl ?_
            refine Eq.trans (evK_qT _ rfl rfl hc) ?_
            refine Eq.trans (evK_d _ e3) ?_
            refine Eq.trans (evK_t (toI64 v != -9223372036854775808) rfl) ?_
            rw [bne_iff_ne.2 hv, cond_true]
            refine Eq.trans (evK_qT _ rfl rfl hc2) ?_
            refine Eq.trans (evK_t _ (leq_sev f 1 1 rfl)) ?_
            rw [decide_eq_false hf, cond_false]
            rfl
      | error e =>
        rw [h2] at hc2
        refine ⟨?_, ?_⟩
        · rw [qnum_cF]
          refine Eq.trans (CFn.flatE _ rfl) ?_
          refine Eq.trans (evK_qT _ rfl rfl hc) ?_
          refine Eq.trans (evK_d _ e3) ?_
          refine Eq.trans (evK_t (toI64 v != -9223372036854775808) rfl) ?_
          rw [bne_iff_ne.2 hv, cond_true]
          refine Eq.trans (evK_qT _ rfl rfl hc2) ?_
          rfl
        · rw [qnump_cF]
          refine CFn.flat _ rfl ?_
          refine Eq.trans (evK_qT _ rfl rfl hc) ?_
          refine Eq.trans (evK_d _ e3) ?_
          refine Eq.trans (evK_t (toI64 v != -9223372036854775808) rfl) ?_
          rw [bne_iff_ne.2 hv, cond_true]
          refine Eq.trans (evK_qT _ rfl rfl hc2) ?_
          rfl
    · rw [if_neg hv]
      have hv : (toI64 v != -9223372036854775808) = false := by
        rw [bne_eq_false_iff_eq]
        exact Classical.not_not.1 hv
      refine ⟨?_, ?_⟩
      · rw [qnum_cF]
        refine Eq.trans (CFn.flatE _ rfl) ?_
        refine Eq.trans (evK_qT _ rfl rfl hc) ?_
        refine Eq.trans (evK_d _ e3) ?_
        refine Eq.trans (evK_t (toI64 v != -9223372036854775808) rfl) ?_
        rw [hv, cond_false]
        rfl
      · rw [qnump_cF]
        refine CFn.flat _ rfl ?_
        refine Eq.trans (evK_qT _ rfl rfl hc) ?_
        refine Eq.trans (evK_d _ e3) ?_
        refine Eq.trans (evK_t (toI64 v != -9223372036854775808) rfl) ?_
        rw [hv, cond_false]
        rfl
  | error e =>
    rw [h] at hc
    refine ⟨?_, ?_⟩
    · rw [qnum_cF]
      refine Eq.trans (CFn.flatE _ rfl) ?_
      refine Eq.trans (evK_qT _ rfl rfl hc) ?_
      rfl
    · rw [qnump_cF]
      refine CFn.flat _ rfl ?_
      refine Eq.trans (evK_qT _ rfl rfl hc) ?_
      rfl
end Go.Proofs.YtfcjlgdpdomoeaaGreat.U
