/- HistoryBytes: the bytes of scripts, by both; the law. -/
import Derived.Test.YtokaedcpmiklhaaGreatUN
set_option linter.unusedSimpArgs false
set_option linter.unusedVariables false
namespace Go.Proofs.YtokaedcpmiklhaaGreat.U
open Go Go.Eng
def bytesI (b : ByteArray) : List Int := b.data.toList.map fun x => (x.toNat : Int)
theorem bytesI_len (b : ByteArray) : (bytesI b).length = b.size := by
  unfold bytesI
  rw [List.length_map]
  rfl
theorem toS_bytes (b : ByteArray) : toS (bytesI b) = .string b := by
  have h : toL (bytesI b) = b.data.toList := by
    unfold toL bytesI
    rw [List.map_map]
    conv => rhs; rw [← List.map_id b.data.toList]
    refine List.map_congr_left fun x _ => ?_
    show UInt8.ofNat (Int.toNat (x.toNat : Int)) = x
    rw [Int.toNat_natCast, UInt8.ofNat_toNat]
  unfold toS
  rw [h]
theorem ofs_sev (b : ByteArray) : lsev .ofs [.string b] = some (Eng.lv (rowB (bytesI b))) := by
  show some (Eng.lv (b.data.toList.map fun x => [Value.int .u8 (x.toNat : Int)])) = _
  unfold rowB bytesI
  rw [List.map_map]
  rfl
theorem cat1 {V : Value} {l m : List Int} (h : BV V l) (hn : l.length + m.length ≤ 1048576) : ∃ V', lsev (.cat 1) [V, Eng.lv (rowB m)] = some V' ∧ BV V' (l ++ m) := by
  have h2 : lrows V = some (rowB l) := h
  cases m with
  | nil =>
    refine ⟨V, ?_, by simpa using h⟩
    simp only [lsev, h2, lrows_lv, rowB, List.map_nil]
  | cons a r =>
    refine ⟨Eng.lv (rowB (l ++ a :: r)), ?_, BV.lv _⟩
    have h1 : Nat.ble ((rowB l).length + (rowB (a :: r)).length) 1048576 = true := by
      refine Nat.ble_eq_true_of_le ?_
      rw [rowB, rowB, List.length_map, List.length_map]
      exact hn
    have h3 : (rowB (a :: r)).all (fun r => Nat.beq r.length 1) = true := by
      rw [List.all_eq_true]
      intro x hx
      obtain ⟨y, _, rfl⟩ := List.mem_map.1 hx
      rfl
    have h4 : rowB (a :: r) = [.int .u8 a] :: rowB r := rfl
    simp only [lsev, h2, lrows_lv]
    rw [h4]
    simp only
    rw [← h4, h1, h3, rowB_app]
    rfl
theorem b1_of : ∀ (xs : List Value) (l : List Int), aggs xs = some (rowB l) → b1 xs = some (toL l) := by
  intro xs
  induction xs with
  | nil =>
    intro l h
    cases l with
    | nil => rfl
    | cons => simp [aggs, rowB] at h
  | cons v t ih =>
    intro l h
    cases v <;> try (simp [aggs] at h; done)
    rename_i r
    simp only [aggs, Option.map_eq_some_iff] at h
    obtain ⟨u, h1, h2⟩ := h
    cases l with
    | nil => simp [rowB] at h2
    | cons n l =>
      simp only [rowB, List.map_cons, List.cons.injEq] at h2
      obtain ⟨h2, rfl⟩ := h2
      simp only [b1, h2, ih l h1]
      rfl
theorem tos_sev {V : Value} {l : List Int} (h : BV V l) : lsev .tos [V] = some (toS l) := by
  unfold BV lrows at h
  split at h
  · cases l with
    | nil => rfl
    | cons => simp [rowB] at h
  · rename_i rs
    show (b1 rs.toList).map (fun bs => Value.string ⟨⟨bs⟩⟩) = _
    rw [b1_of _ _ h]
    rfl
  · cases h
/-- the bytes of an op -/
def opB (o : OpV) : List Int := [u8 o.k, u8 o.s] ++ (if o.k = 3 then be (u64 (o.b.size : Int)) 4 ++ bytesI o.b else if o.k = 4 then be (u64 o.n) 4 else [])
def opsB (l : List OpV) : List Int := l.flatMap opB
theorem opsB_succ {l : List OpV} {i : Nat} {o : OpV} (h : l[i]? = some o) : opsB (l.take (i + 1)) = opsB (l.take i) ++ opB o := by
  unfold opsB
  rw [List.take_add_one, h, List.flatMap_append]
  simp
theorem opB_len (o : OpV) : (opB o).length ≤ 6 + o.b.size := by
  unfold opB
  split
  · simp only [List.length_append, be_len, bytesI_len, List.length_cons, List.length_nil]; omega
  · split
    · simp only [List.length_append, be_len, List.length_cons, List.length_nil]; omega
    · simp only [List.length_append, List.length_cons, List.length_nil]; omega
theorem opsB_len {l : List OpV} : ∀ i, i ≤ l.length → (opsB (l.take i)).length ≤ 6 * i + totAt l i := by
  intro i
  induction i with
  | zero => intro _; simp [opsB]
  | succ i ih =>
    intro hi
    have h1 := ih (by omega)
    have h2 := totAt_succ (getI (l := l) (i := i) (by omega))
    have h3 := opB_len l[i]
    rw [opsB_succ (getI (by omega)), List.length_append]
    omega
/-- the bytes ahead of the ops -/
def headB (s : Su) (n : Nat) : List Int :=
  numB s.x s.fx ++ numB s.y s.fy ++ numB s.d s.fd ++ be (u64 s.m) 4 ++ be (u64 s.r) 4 ++ be (u64 s.ns) 4 ++ be (u64 s.nt) 4 ++ be (u64 s.nq) 4 ++ be (u64 (n : Int)) 4
theorem headB_len (s : Su) (n : Nat) : (headB s n).length = 51 := by
  unfold headB
  simp only [List.length_append, be_len, numB_len]
noncomputable abbrev hbD : List (Ctr Tryz.prog) := [hchk_c, putNum_c, put_c]
noncomputable abbrev rbD : List (Ctr Tryz.prog) := [rchk_c, num_c, number4_c, number1_c]
theorem hbytes_1 {VO : Value} {l : List OpV} (hV : OpsV VO l) (hl : l.length ≤ 400) (ht : ∀ i, i ≤ l.length → totAt l i ≤ 65536) (pre : List Int) (hp : pre.length = 51) : ∀ (k i : Nat) (V : Value), i ≤ l.length → l.length - i < k → BV V (pre ++ opsB (l.take i)) →
    runT hbD hbytes_f k 1 [.int .i64 (l.length : Int), .int .i64 (i : Int)] [V, VO] = some ([toS (pre ++ opsB l), .int .i64 0], noL) := by
  intro k
  induction k with
  | zero => intro i V _ h; omega
  | succ k ih =>
    intro i V hi hk hB
    refine Eq.trans (CFn.step _ rfl) ?_
    refine Eq.trans (evK_t (decide ((i : Int) < (l.length : Int))) rfl) ?_
    by_cases hlt : i < l.length
    · rw [decide_eq_true (by omega : (i : Int) < (l.length : Int)), cond_true]
      obtain ⟨e1, _⟩ := hV.elem (getI hlt)
      have b1 := opsB_len (l := l) i (by omega)
      have b2 := ht (i + 1) (by omega)
      have b3 := totAt_succ (getI hlt)
      have b4 := opsB_succ (getI hlt)
      have b5 : (pre ++ opsB (l.take i)).length ≤ 51 + 6 * i + totAt l i := by rw [List.length_append]; omega
      refine Eq.trans (evK_e (plV l[i]) e1 rfl) ?_
      refine Eq.trans (evK_l (opL l[i]) (opL l[i]) [] rfl rfl) ?_
      refine Eq.trans (evK_d (.int .u8 (u8 l[i].k)) rfl) ?_
      refine Eq.trans (evK_d (.int .u8 (u8 l[i].s)) rfl) ?_
      refine Eq.trans (evK_e (Eng.lv (rowB (pre ++ opsB (l.take i) ++ [u8 l[i].k, u8 l[i].s]))) (app2 hB (by omega) _ _) rfl) ?_
      have hB2 := BV.lv (pre ++ opsB (l.take i) ++ [u8 l[i].k, u8 l[i].s])
      have b6 : (pre ++ opsB (l.take i) ++ [u8 l[i].k, u8 l[i].s]).length ≤ 53 + 6 * i + totAt l i := by rw [List.length_append]; simp only [List.length_cons, List.length_nil]; omega
      refine Eq.trans (evK_t (l[i].k == 3) rfl) ?_
      by_cases h3 : l[i].k = 3
      · rw [beq_iff_eq.2 h3, cond_true]
        have b7 : opB l[i] = [u8 l[i].k, u8 l[i].s] ++ (be (u64 (l[i].b.size : Int)) 4 ++ bytesI l[i].b) := by unfold opB; rw [if_pos h3]
        obtain ⟨V2, e2, hB3⟩ := put_F (u64 (l[i].b.size : Int)) 4 hB2 (by omega) (by omega)
        have b8 : (pre ++ opsB (l.take i) ++ [u8 l[i].k, u8 l[i].s] ++ be (u64 (l[i].b.size : Int)) 4).length ≤ 57 + 6 * i + totAt l i := by rw [List.length_append, be_len]; omega
        obtain ⟨V3, e3, hB4⟩ := cat1 (m := bytesI l[i].b) hB3 (by rw [bytesI_len]; omega)
        refine Eq.trans (evK_d (.int .i64 ((l[i].b.size : Nat) : Int)) rfl) ?_
        refine Eq.trans (evK_d (.int .u64 (u64 ((l[i].b.size : Nat) : Int))) rfl) ?_
        refine Eq.trans (evK_c noL [V2] rfl e2) ?_
        refine Eq.trans (evK_e _ (ofs_sev l[i].b) rfl) ?_
        refine Eq.trans (evK_e V3 e3 rfl) ?_
        refine Eq.trans (evK_d (.int .i64 ((i + 1 : Nat) : Int)) (inc_sev hlt hV.short)) ?_
        refine ih (i + 1) V3 (by omega) (by omega) ?_
        rw [b4, b7]
        simpa only [List.append_assoc] using hB4
      · rw [beq_eq_false_iff_ne.2 h3, cond_false]
        refine Eq.trans (evK_t (l[i].k == 4) rfl) ?_
        by_cases h4 : l[i].k = 4
        · rw [beq_iff_eq.2 h4, cond_true]
          have b7 : opB l[i] = [u8 l[i].k, u8 l[i].s] ++ be (u64 l[i].n) 4 := by unfold opB; rw [if_neg h3, if_pos h4]
          obtain ⟨V2, e2, hB3⟩ := put_F (u64 l[i].n) 4 hB2 (by omega) (by omega)
          refine Eq.trans (evK_d (.int .u64 (u64 l[i].n)) rfl) ?_
          refine Eq.trans (evK_c noL [V2] rfl e2) ?_
          refine Eq.trans (evK_d (.int .i64 ((i + 1 : Nat) : Int)) (inc_sev hlt hV.short)) ?_
          refine ih (i + 1) V2 (by omega) (by omega) ?_
          rw [b4, b7]
          simpa only [List.append_assoc] using hB3
        · rw [beq_eq_false_iff_ne.2 h4, cond_false]
          have b7 : opB l[i] = [u8 l[i].k, u8 l[i].s] ++ [] := by unfold opB; rw [if_neg h3, if_neg h4]
          refine Eq.trans (evK_d (.int .i64 ((i + 1 : Nat) : Int)) (inc_sev hlt hV.short)) ?_
          refine ih (i + 1) (Eng.lv (rowB (pre ++ opsB (l.take i) ++ [u8 l[i].k, u8 l[i].s]))) (by omega) (by omega) ?_
          rw [b4, b7, List.append_nil]
          simpa only [List.append_assoc] using hB2
    · have : i = l.length := by omega
      subst this
      rw [decide_eq_false (by omega), cond_false]
      rw [List.take_length] at hB
      exact evK_es (toS (pre ++ opsB l)) (tos_sev hB) rfl
theorem hbytes_cF (l k : List Value) : hbytes_c.F l k = CFn.F (P := Tryz.prog) hbD hbytes_f l k := by kernel_rfl
/-- the bytes of a script, and the error -/
def bytesR (s : Su) (l : List OpV) : List Value := if chk s l = 0 then [toS (headB s l.length ++ opsB l), .int .i64 0] else [toS [], .int .i64 (chk s l)]
theorem chk_len {s : Su} {l : List OpV} (h : chk s l = 0) : l.length ≤ 400 := by
  unfold chk at h
  split at h
  · split at h
    · cases h
    · omega
  · cases h
theorem hbytes_F (s : Su) {VO : Value} {l : List OpV} (hV : OpsV VO l) (hs : su64 s) (htot : l.length ≤ 400 → ∀ i, i ≤ l.length → totAt l i ≤ 65536) :
    hbytes_c.F (suL s) [VO] = some (bytesR s l, noL) := by
  rw [hbytes_cF]
  have hh := hV.short
  refine CFn.begin (l.length + 3) (by unfold manyK; omega) ?_
  refine Eq.trans (CFn.step _ rfl) ?_
  refine Eq.trans (evK_c [.int .i64 (chk s l)] [] rfl (hchk_F s hV hs.1 hs.2.1 hs.2.2 htot)) ?_
  refine Eq.trans (evK_t (chk s l != 0) rfl) ?_
  unfold bytesR
  by_cases hc : chk s l = 0
  · have hl := chk_len hc
    rw [hc, if_pos rfl, show ((0 : Int) != 0) = false from rfl, cond_false]
    obtain ⟨V1, e1, h1⟩ := putNum_F s.x s.fx BV.nil (by simp)
    obtain ⟨V2, e2, h2⟩ := putNum_F s.y s.fy h1 (by simp only [List.length_append, be_len, numB_len, List.length_nil]; omega)
    obtain ⟨V3, e3, h3⟩ := putNum_F s.d s.fd h2 (by simp only [List.length_append, be_len, numB_len, List.length_nil]; omega)
    obtain ⟨V4, e4, h4⟩ := put_F (u64 s.m) 4 h3 (by simp only [List.length_append, be_len, numB_len, List.length_nil]; omega) (by omega)
    obtain ⟨V5, e5, h5⟩ := put_F (u64 s.r) 4 h4 (by simp only [List.length_append, be_len, numB_len, List.length_nil]; omega) (by omega)
    obtain ⟨V6, e6, h6⟩ := put_F (u64 s.ns) 4 h5 (by simp only [List.length_append, be_len, numB_len, List.length_nil]; omega) (by omega)
    obtain ⟨V7, e7, h7⟩ := put_F (u64 s.nt) 4 h6 (by simp only [List.length_append, be_len, numB_len, List.length_nil]; omega) (by omega)
    obtain ⟨V8, e8, h8⟩ := put_F (u64 s.nq) 4 h7 (by simp only [List.length_append, be_len, numB_len, List.length_nil]; omega) (by omega)
    obtain ⟨V9, e9, h9⟩ := put_F (u64 (l.length : Int)) 4 h8 (by simp only [List.length_append, be_len, numB_len, List.length_nil]; omega) (by omega)
    refine Eq.trans (evK_c noL [V1] rfl e1) ?_
    refine Eq.trans (evK_c noL [V2] rfl e2) ?_
    refine Eq.trans (evK_c noL [V3] rfl e3) ?_
    refine Eq.trans (evK_es (.int .i64 (l.length : Int)) hV.len rfl) ?_
    refine Eq.trans (evK_d (.int .u64 (u64 s.m)) rfl) ?_
    refine Eq.trans (evK_c noL [V4] rfl e4) ?_
    refine Eq.trans (evK_d (.int .u64 (u64 s.r)) rfl) ?_
    refine Eq.trans (evK_c noL [V5] rfl e5) ?_
    refine Eq.trans (evK_d (.int .u64 (u64 s.ns)) rfl) ?_
    refine Eq.trans (evK_c noL [V6] rfl e6) ?_
    refine Eq.trans (evK_d (.int .u64 (u64 s.nt)) rfl) ?_
    refine Eq.trans (evK_c noL [V7] rfl e7) ?_
    refine Eq.trans (evK_d (.int .u64 (u64 s.nq)) rfl) ?_
    refine Eq.trans (evK_c noL [V8] rfl e8) ?_
    refine Eq.trans (evK_d (.int .u64 (u64 (l.length : Int))) rfl) ?_
    refine Eq.trans (evK_c noL [V9] rfl e9) ?_
    refine hbytes_1 hV hl (htot hl) (headB s l.length) (headB_len s l.length) (l.length + 2) 0 V9 (by omega) (by omega) ?_
    rw [show opsB (l.take 0) = [] from rfl, List.append_nil]
    exact h9
  · rw [if_neg hc, bne_iff_ne.2 hc]
    rfl
theorem byte0 (n : Int) : be (u64 n) 1 = [u8 n] := by
  have h : shV (u64 n) 0 = u64 n := by
    show (u64 n).fdiv (2 ^ (8 * 0)) = u64 n
    simp
  show [byV (u64 n) 0] = [u8 n]
  unfold byV
  rw [h]
  unfold u64 u8
  rw [IntKind.wrap_u8, IntKind.wrap_u8, wrapU64]
  congr 1
  omega
theorem rbytes_1 (s : Su) {VO : Value} {l : List OpV} (hV : OpsV VO l) (hl : l.length ≤ 400) (ht : ∀ i, i ≤ l.length → totAt l i ≤ 65536) (pre : List Int) (hp : pre.length = 51) : ∀ (k i : Nat), i ≤ l.length → l.length - i < k →
    runT rbD rbytes_f k 1 (suL s ++ [toS (pre ++ opsB (l.take i)), .int .i64 (i : Int)]) [VO] = some ([toS (pre ++ opsB l), .int .i64 0], noL) := by
  intro k
  induction k with
  | zero => intro i _ h; omega
  | succ k ih =>
    intro i hi hk
    refine Eq.trans (CFn.step _ rfl) ?_
    refine Eq.trans (evK_es (.int .i64 (l.length : Int)) hV.len rfl) ?_
    refine Eq.trans (evK_t (decide ((i : Int) < (l.length : Int))) rfl) ?_
    by_cases hlt : i < l.length
    · rw [decide_eq_true (by omega : (i : Int) < (l.length : Int)), cond_true]
      obtain ⟨e1, _⟩ := hV.elem (getI hlt)
      have b1 := opsB_len (l := l) i (by omega)
      have b2 := ht (i + 1) (by omega)
      have b3 := totAt_succ (getI hlt)
      have b4 := opsB_succ (getI hlt)
      have b5 : (pre ++ opsB (l.take i)).length ≤ 51 + 6 * i + totAt l i := by rw [List.length_append]; omega
      have b6 := bytesI_len l[i].b
      generalize hout : pre ++ opsB (l.take i) = out at *
      refine Eq.trans (evK_e (plV l[i]) e1 rfl) ?_
      refine Eq.trans (evK_l (opL l[i]) (opL l[i]) [] rfl rfl) ?_
      refine Eq.trans (evK_d (.int .u64 (u64 l[i].k)) rfl) ?_
      refine Eq.trans (evK_c [toS (be (u64 l[i].k) 1)] noL rfl (number1_F _)) ?_
      refine Eq.trans (evK_d (.int .u64 (u64 l[i].s)) rfl) ?_
      refine Eq.trans (evK_c [toS (be (u64 l[i].s) 1)] noL rfl (number1_F _)) ?_
      refine Eq.trans (evK_d (toS (out ++ be (u64 l[i].k) 1)) (add_sev (by rw [be_len]; omega))) ?_
      refine Eq.trans (evK_d (toS (out ++ be (u64 l[i].k) 1 ++ be (u64 l[i].s) 1)) (add_sev (by rw [List.length_append, be_len, be_len]; omega))) ?_
      refine Eq.trans (evK_t (l[i].k == 3) rfl) ?_
      by_cases h3 : l[i].k = 3
      · rw [beq_iff_eq.2 h3, cond_true]
        have b7 : opB l[i] = [u8 l[i].k, u8 l[i].s] ++ (be (u64 (l[i].b.size : Int)) 4 ++ bytesI l[i].b) := by unfold opB; rw [if_pos h3]
        refine Eq.trans (evK_d (.int .i64 ((l[i].b.size : Nat) : Int)) rfl) ?_
        refine Eq.trans (evK_d (.int .u64 (u64 ((l[i].b.size : Nat) : Int))) rfl) ?_
        refine Eq.trans (evK_c [toS (be (u64 ((l[i].b.size : Nat) : Int)) 4)] noL rfl (number4_F _)) ?_
        refine Eq.trans (evK_d (toS (out ++ be (u64 l[i].k) 1 ++ be (u64 l[i].s) 1 ++ be (u64 ((l[i].b.size : Nat) : Int)) 4)) (add_sev (by simp only [List.length_append, be_len]; omega))) ?_
        refine Eq.trans (evK_d (toS (out ++ be (u64 l[i].k) 1 ++ be (u64 l[i].s) 1 ++ be (u64 ((l[i].b.size : Nat) : Int)) 4 ++ bytesI l[i].b)) (Eq.trans (by rw [toS_bytes]; rfl) (add_sev (m := bytesI l[i].b) (by simp only [List.length_append, be_len]; omega)))) ?_
        refine Eq.trans (evK_t (l[i].k == 4) rfl) ?_
        rw [beq_eq_false_iff_ne.2 (by omega : l[i].k ≠ 4), cond_false]
        refine Eq.trans (evK_d (.int .i64 ((i + 1 : Nat) : Int)) (inc_sev hlt hV.short)) ?_
        refine Eq.trans ?_ (ih (i + 1) (by omega) (by omega))
        rw [b4, b7, byte0, byte0, ← hout]
        simp only [List.append_assoc, List.cons_append, List.nil_append]
        rfl
      · rw [beq_eq_false_iff_ne.2 h3, cond_false]
        refine Eq.trans (evK_t (l[i].k == 4) rfl) ?_
        by_cases h4 : l[i].k = 4
        · rw [beq_iff_eq.2 h4, cond_true]
          have b7 : opB l[i] = [u8 l[i].k, u8 l[i].s] ++ be (u64 l[i].n) 4 := by unfold opB; rw [if_neg h3, if_pos h4]
          refine Eq.trans (evK_d (.int .u64 (u64 l[i].n)) rfl) ?_
          refine Eq.trans (evK_c [toS (be (u64 l[i].n) 4)] noL rfl (number4_F _)) ?_
          refine Eq.trans (evK_d (toS (out ++ be (u64 l[i].k) 1 ++ be (u64 l[i].s) 1 ++ be (u64 l[i].n) 4)) (add_sev (by simp only [List.length_append, be_len]; omega))) ?_
          refine Eq.trans (evK_d (.int .i64 ((i + 1 : Nat) : Int)) (inc_sev hlt hV.short)) ?_
          refine Eq.trans ?_ (ih (i + 1) (by omega) (by omega))
          rw [b4, b7, byte0, byte0, ← hout]
          simp only [List.append_assoc, List.cons_append, List.nil_append]
          rfl
        · rw [beq_eq_false_iff_ne.2 h4, cond_false]
          have b7 : opB l[i] = [u8 l[i].k, u8 l[i].s] ++ [] := by unfold opB; rw [if_neg h3, if_neg h4]
          refine Eq.trans (evK_d (.int .i64 ((i + 1 : Nat) : Int)) (inc_sev hlt hV.short)) ?_
          refine Eq.trans ?_ (ih (i + 1) (by omega) (by omega))
          rw [b4, b7, byte0, byte0, ← hout]
          simp only [List.append_assoc, List.cons_append, List.nil_append, List.append_nil]
          rfl
    · have : i = l.length := by omega
      subst this
      rw [decide_eq_false (by omega), cond_false, List.take_length]
      rfl
theorem rbytes_cF (l k : List Value) : rbytes_c.F l k = CFn.F (P := Tryz.prog) rbD rbytes_f l k := by kernel_rfl
def rbT6 : Tr Lf := .d (.conv .u64) [sv 6] (.c 2 ⟨[sv 18], [], [], [], true⟩ (.d (.bin .add) [sv 16, sv 19] (.d (.conv .u64) [sv 7] (.c 2 ⟨[sv 21], [], [], [], true⟩ (.d (.bin .add) [sv 20, sv 22] (.d (.conv .u64) [sv 8] (.c 2 ⟨[sv 24], [], [], [], true⟩ (.d (.bin .add) [sv 23, sv 25] (.d (.conv .u64) [sv 9] (.c 2 ⟨[sv 27], [], [], [], true⟩ (.d (.bin .add) [sv 26, sv 28] (.d (.conv .u64) [sv 10] (.c 2 ⟨[sv 30], [], [], [], true⟩ (.d (.bin .add) [sv 29, sv 31] (.d (.conv .u64) [sv 17] (.c 2 ⟨[sv 33], [], [], [], true⟩ (.d (.bin .add) [sv 32, sv 34] (.lf (.go 1 ⟨(svs 0 11 ++ [sv 35, iv 0]), [(fv 0, 0)], [.same 1], [], true⟩)))))))))))))))))))
theorem rbytes_6 (s : Su) {VO : Value} {l : List OpV} (hV : OpsV VO l) (hl : l.length ≤ 400) (ht : ∀ i, i ≤ l.length → totAt l i ≤ 65536) (k : Nat) (hk : l.length < k) (p3 : List Int) (hp3 : p3 = numB s.x s.fx ++ numB s.y s.fy ++ numB s.d s.fd) (E : Env) (e0 : E.s 0 = .int .i64 s.x) (e1 : E.s 1 = .bool s.fx) (e2 : E.s 2 = .int .i64 s.y) (e3 : E.s 3 = .bool s.fy) (e4 : E.s 4 = .int .i64 s.d) (e5 : E.s 5 = .bool s.fd) (e6 : E.s 6 = .int .i64 s.m) (e7 : E.s 7 = .int .i64 s.r) (e8 : E.s 8 = .int .i64 s.ns) (e9 : E.s 9 = .int .i64 s.nt) (e10 : E.s 10 = .int .i64 s.nq) (e16 : E.s 16 = toS p3) (e17 : E.s 17 = .int .i64 (l.length : Int)) (el : E.l 0 = VO) :
    evK rbD (CFn.K (P := Tryz.prog) rbD rbytes_f k) rbT6 18 1 E = some ([toS (headB s l.length ++ opsB l), .int .i64 0], noL) := by
  have n3 : p3.length = 27 := by rw [hp3]; simp only [List.length_append, numB_len]
  refine Eq.trans (evK_d (.int .u64 (u64 s.m)) (by show sev (.conv .u64) [E.s 6] = _; rw [e6]; rfl)) ?_
  refine Eq.trans (evK_c [toS (be (u64 s.m) 4)] noL rfl (number4_F _)) ?_
  refine Eq.trans (evK_d (toS (p3 ++ be (u64 s.m) 4)) (by show sev (.bin .add) [E.s 16, _] = _; rw [e16]; exact add_sev (by rw [be_len]; omega))) ?_
  generalize h4 : p3 ++ be (u64 s.m) 4 = p4
  have n4 : p4.length = 31 := by rw [← h4, List.length_append, be_len]; omega
  refine Eq.trans (evK_d (.int .u64 (u64 s.r)) (by show sev (.conv .u64) [E.s 7] = _; rw [e7]; rfl)) ?_
  refine Eq.trans (evK_c [toS (be (u64 s.r) 4)] noL rfl (number4_F _)) ?_
  refine Eq.trans (evK_d (toS (p4 ++ be (u64 s.r) 4)) (add_sev (by rw [be_len]; omega))) ?_
  generalize h5 : p4 ++ be (u64 s.r) 4 = p5
  have n5 : p5.length = 35 := by rw [← h5, List.length_append, be_len]; omega
  refine Eq.trans (evK_d (.int .u64 (u64 s.ns)) (by show sev (.conv .u64) [E.s 8] = _; rw [e8]; rfl)) ?_
  refine Eq.trans (evK_c [toS (be (u64 s.ns) 4)] noL rfl (number4_F _)) ?_
  refine Eq.trans (evK_d (toS (p5 ++ be (u64 s.ns) 4)) (add_sev (by rw [be_len]; omega))) ?_
  generalize h6 : p5 ++ be (u64 s.ns) 4 = p6
  have n6 : p6.length = 39 := by rw [← h6, List.length_append, be_len]; omega
  refine Eq.trans (evK_d (.int .u64 (u64 s.nt)) (by show sev (.conv .u64) [E.s 9] = _; rw [e9]; rfl)) ?_
  refine Eq.trans (evK_c [toS (be (u64 s.nt) 4)] noL rfl (number4_F _)) ?_
  refine Eq.trans (evK_d (toS (p6 ++ be (u64 s.nt) 4)) (add_sev (by rw [be_len]; omega))) ?_
  generalize h7 : p6 ++ be (u64 s.nt) 4 = p7
  have n7 : p7.length = 43 := by rw [← h7, List.length_append, be_len]; omega
  refine Eq.trans (evK_d (.int .u64 (u64 s.nq)) (by show sev (.conv .u64) [E.s 10] = _; rw [e10]; rfl)) ?_
  refine Eq.trans (evK_c [toS (be (u64 s.nq) 4)] noL rfl (number4_F _)) ?_
  refine Eq.trans (evK_d (toS (p7 ++ be (u64 s.nq) 4)) (add_sev (by rw [be_len]; omega))) ?_
  generalize h8 : p7 ++ be (u64 s.nq) 4 = p8
  have n8 : p8.length = 47 := by rw [← h8, List.length_append, be_len]; omega
  refine Eq.trans (evK_d (.int .u64 (u64 (l.length : Int))) (by show sev (.conv .u64) [E.s 17] = _; rw [e17]; rfl)) ?_
  refine Eq.trans (evK_c [toS (be (u64 (l.length : Int)) 4)] noL rfl (number4_F _)) ?_
  refine Eq.trans (evK_d (toS (p8 ++ be (u64 (l.length : Int)) 4)) (add_sev (by rw [be_len]; omega))) ?_
  have e : p8 ++ be (u64 (l.length : Int)) 4 = headB s l.length := by
    rw [← h8, ← h7, ← h6, ← h5, ← h4, hp3]
    rfl
  have h := rbytes_1 s hV hl ht (headB s l.length) (headB_len s l.length) k 0 (by omega) (by omega)
  rw [show opsB (l.take 0) = [] from rfl, List.append_nil] at h
  refine Eq.trans ?_ h
  show runT rbD rbytes_f k 1 [E.s 0, E.s 1, E.s 2, E.s 3, E.s 4, E.s 5, E.s 6, E.s 7, E.s 8, E.s 9, E.s 10, toS (p8 ++ be (u64 (l.length : Int)) 4), .int .i64 0] [E.l 0] = _
  rw [e0, e1, e2, e3, e4, e5, e6, e7, e8, e9, e10, el, e]
  rfl
theorem rbytes_F (s : Su) {VO : Value} {l : List OpV} (hV : OpsV VO l) (hm : l.length ≤ 400 → manyAt l l.length ≤ 65536) (htot : l.length ≤ 400 → ∀ i, i ≤ l.length → totAt l i ≤ 65536) :
    rbytes_c.F (suL s) [VO] = some (bytesR s l, noL) := by
  rw [rbytes_cF]
  have hh := hV.short
  refine CFn.begin (l.length + 3) (by unfold manyK; omega) ?_
  refine Eq.trans (CFn.step _ rfl) ?_
  refine Eq.trans (evK_c [.int .i64 (chk s l)] [] rfl (rchk_F s hV hm)) ?_
  refine Eq.trans (evK_t (chk s l != 0) rfl) ?_
  unfold bytesR
  by_cases hc : chk s l = 0
  · have hl := chk_len hc
    rw [hc, if_pos rfl, show ((0 : Int) != 0) = false from rfl, cond_false]
    refine Eq.trans (evK_c [toS (numB s.x s.fx)] noL rfl (num_F _ _)) ?_
    refine Eq.trans (evK_c [toS (numB s.y s.fy)] noL rfl (num_F _ _)) ?_
    refine Eq.trans (evK_c [toS (numB s.d s.fd)] noL rfl (num_F _ _)) ?_
    refine Eq.trans (evK_d (toS (numB s.x s.fx ++ numB s.y s.fy)) (add_sev (by simp only [numB_len]; omega))) ?_
    refine Eq.trans (evK_d (toS (numB s.x s.fx ++ numB s.y s.fy ++ numB s.d s.fd)) (add_sev (by simp only [List.length_append, numB_len]; omega))) ?_
    refine Eq.trans (evK_es (.int .i64 (l.length : Int)) hV.len rfl) ?_
    exact rbytes_6 s hV hl (htot hl) (l.length + 2) (by omega) _ rfl _ rfl rfl rfl rfl rfl rfl rfl rfl rfl rfl rfl rfl rfl rfl
  · rw [if_neg hc, bne_iff_ne.2 hc]
    rfl
noncomputable abbrev l3D : List (Ctr Tryz.prog) := [long_c, awake_c, own_c, hbytes_c, rbytes_c, rsame_c]
theorem law3_cF (l k : List Value) : law3_c.F l k = CFn.F (P := Tryz.prog) l3D law3_f l k := by kernel_rfl
theorem eqS (l : List Int) : sev (.bin .eql) [toS l, toS l] = some (.bool true) := by
  show some (Value.bool ((⟨⟨toL l⟩⟩ : ByteArray).data.toList == (⟨⟨toL l⟩⟩ : ByteArray).data.toList)) = _
  rw [beq_self_eq_true]
/-- HistoryBytes answers true -/
theorem law3_F (s : Su) {V1 : Value} {l1 : List OpV} (h1 : OpsV V1 l1) (hs : su64 s) (z1 : ∀ o ∈ l1, o.b.size ≤ 140737488355328) :
    law3_c.F (suL s) [V1] = some ([.bool true], noL) := by
  rw [law3_cF]
  refine CFn.flat (cs := l3D) (F := law3_f) _ rfl ?_
  refine Eq.trans (evK_c [.bool (longB l1)] [] rfl (long_F s h1)) ?_
  refine Eq.trans (evK_t (longB l1) rfl) ?_
  cases hb1 : longB l1 with
  | true =>
    rw [cond_true]
    refine Eq.trans (evK_c [] [] rfl awake_F) ?_
    rfl
  | false =>
  rw [cond_false]
  obtain ⟨n1, t1, m1⟩ := short_of hb1 z1
  refine Eq.trans (evK_c (suL s) [lv (l1.map opL)] rfl (own_F s h1 (by omega))) ?_
  obtain ⟨L, e, hr⟩ : ∃ (L : List Int) (e : Int), bytesR s l1 = [toS L, .int .i64 e] := by
    unfold bytesR
    split
    · exact ⟨_, _, rfl⟩
    · exact ⟨_, _, rfl⟩
  have hb := hbytes_F s h1.own hs t1
  have rb := rbytes_F s h1 m1 t1
  rw [hr] at hb rb
  refine Eq.trans (evK_c [toS L, .int .i64 e] [] rfl hb) ?_
  refine Eq.trans (evK_c [toS L, .int .i64 e] [] rfl rb) ?_
  refine Eq.trans (evK_t true (eqS L)) ?_
  rw [cond_true]
  refine Eq.trans (evK_t true (by show some (Value.bool (e == e)) = _; rw [beq_self_eq_true])) ?_
  rw [cond_true]
  refine Eq.trans (evK_c [.bool true] [] rfl (Eq.trans (rsame_F s s h1.own h1) (by rw [sameOps_refl, sameA_refl]))) ?_
  refine Eq.trans (evK_t true rfl) ?_
  rw [cond_true]
  refine Eq.trans (evK_c [] [] rfl awake_F) ?_
  rfl
end Go.Proofs.YtokaedcpmiklhaaGreat.U
