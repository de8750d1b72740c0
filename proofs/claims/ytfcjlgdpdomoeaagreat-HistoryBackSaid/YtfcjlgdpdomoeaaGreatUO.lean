/- HistoryRead: the bytes of scripts, by both; the law. -/
import Derived.Test.YtfcjlgdpdomoeaaGreatUN
set_option linter.unusedSimpArgs false
set_option linter.unusedVariables false
namespace Go.Proofs.YtfcjlgdpdomoeaaGreat.U
open Go Go.Eng
def bytesI (b : ByteArray) : List Int := b.data.toList.map fun x => (x.toNat : Int)
theorem bytesI_len (b : ByteArray) : (bytesI b).length = b.size := by
  unfold bytesI
  rw [List.length_map]
  rfl
theorem toS_bytes (b : ByteArray) : toS (bytesI b) = .string b := by
  have h : toL (bytesI b) = b.data.toList := by
    unfold toL bytesI
    rw [List.map_map]
    conv => rhs; rw [← List.map_id b.data.toList]
    refine List.map_congr_left fun x _ => ?_
    show UInt8.ofNat (Int.toNat (x.toNat : Int)) = x
    rw [Int.toNat_natCast, UInt8.ofNat_toNat]
  unfold toS
  rw [h]
theorem ofs_sev (b : ByteArray) : lsev .ofs [.string b] = some (Eng.lv (rowB (bytesI b))) := by
  show some (Eng.lv (b.data.toList.map fun x => [Value.int .u8 (x.toNat : Int)])) = _
  unfold rowB bytesI
  rw [List.map_map]
  rfl
theorem cat1 {V : Value} {l m : List Int} (h : BV V l) (hn : l.length + m.length ≤ 1048576) : ∃ V', lsev (.cat 1) [V, Eng.lv (rowB m)] = some V' ∧ BV V' (l ++ m) := by
  have h2 : lrows V = some (rowB l) := h
  cases m with
  | nil =>
    refine ⟨V, ?_, by simpa using h⟩
    simp only [lsev, h2, lrows_lv, rowB, List.map_nil]
  | cons a r =>
    refine ⟨Eng.lv (rowB (l ++ a :: r)), ?_, BV.lv _⟩
    have h1 : Nat.ble ((rowB l).length + (rowB (a :: r)).length) 1048576 = true := by
      refine Nat.ble_eq_true_of_le ?_
      rw [rowB, rowB, List.length_map, List.length_map]
      exact hn
    have h3 : (rowB (a :: r)).all (fun r => Nat.beq r.length 1) = true := by
      rw [List.all_eq_true]
      intro x hx
      obtain ⟨y, _, rfl⟩ := List.mem_map.1 hx
      rfl
    have h4 : rowB (a :: r) = [.int .u8 a] :: rowB r := rfl
    simp only [lsev, h2, lrows_lv]
    rw [h4]
    simp only
    rw [← h4, h1, h3, rowB_app]
    rfl
theorem b1_of : ∀ (xs : List Value) (l : List Int), aggs xs = some (rowB l) → b1 xs = some (toL l) := by
  intro xs
  induction xs with
  | nil =>
    intro l h
    cases l with
    | nil => rfl
    | cons => simp [aggs, rowB] at h
  | cons v t ih =>
    intro l h
    cases v <;> try (simp [aggs] at h; done)
    rename_i r
    simp only [aggs, Option.map_eq_some_iff] at h
    obtain ⟨u, h1, h2⟩ := h
    cases l with
    | nil => simp [rowB] at h2
    | cons n l =>
      simp only [rowB, List.map_cons, List.cons.injEq] at h2
      obtain ⟨h2, rfl⟩ := h2
      simp only [b1, h2, ih l h1]
      rfl
theorem tos_sev {V : Value} {l : List Int} (h : BV V l) : lsev .tos [V] = some (toS l) := by
  unfold BV lrows at h
  split at h
  · cases l with
    | nil => rfl
    | cons => simp [rowB] at h
  · rename_i rs
    show (b1 rs.toList).map (fun bs => Value.string ⟨⟨bs⟩⟩) = _
    rw [b1_of _ _ h]
    rfl
  · cases h
/-- the bytes of an op -/
def opB (o : OpV) : List Int := [u8 o.k, u8 o.s] ++ (if o.k = 3 then be (u64 (o.b.size : Int)) 4 ++ bytesI o.b else if o.k = 4 then be (u64 o.n) 4 else [])
def opsB (l : List OpV) : List Int := l.flatMap opB
theorem opsB_succ {l : List OpV} {i : Nat} {o : OpV} (h : l[i]? = some o) : opsB (l.take (i + 1)) = opsB (l.take i) ++ opB o := by
  unfold opsB
  rw [List.take_add_one, h, List.flatMap_append]
  simp
theorem opB_len (o : OpV) : (opB o).length ≤ 6 + o.b.size := by
  unfold opB
  split
  · simp only [List.length_append, be_len, bytesI_len, List.length_cons, List.length_nil]; omega
  · split
    · simp only [List.length_append, be_len, List.length_cons, List.length_nil]; omega
    · simp only [List.length_append, List.length_cons, List.length_nil]; omega
theorem opsB_len {l : List OpV} : ∀ i, i ≤ l.length → (opsB (l.take i)).length ≤ 6 * i + totAt l i := by
  intro i
  induction i with
  | zero => intro _; simp [opsB]
  | succ i ih =>
    intro hi
    have h1 := ih (by omega)
    have h2 := totAt_succ (getI (l := l) (i := i) (by omega))
    have h3 := opB_len l[i]
    rw [opsB_succ (getI (by omega)), List.length_append]
    omega
/-- the bytes ahead of the ops -/
def headB (s : Su) (n : Nat) : List Int :=
  numB s.x s.fx ++ numB s.y s.fy ++ numB s.d s.fd ++ be (u64 s.m) 4 ++ be (u64 s.r) 4 ++ be (u64 s.ns) 4 ++ be (u64 s.nt) 4 ++ be (u64 s.nq) 4 ++ be (u64 (n : Int)) 4
theorem headB_len (s : Su) (n : Nat) : (headB s n).length = 51 := by
  unfold headB
  simp only [List.length_append, be_len, numB_len]
noncomputable abbrev hbD : List (Ctr Tryz.prog) := [hchk_c, putNum_c, put_c]
theorem hbytes_1 {VO : Value} {l : List OpV} (hV : OpsV VO l) (hl : l.length ≤ 400) (ht : ∀ i, i ≤ l.length → totAt l i ≤ 65536) (pre : List Int) (hp : pre.length = 51) : ∀ (k i : Nat) (V : Value), i ≤ l.length → l.length - i < k → BV V (pre ++ opsB (l.take i)) →
    runT hbD hbytes_f k 1 [.int .i64 (l.length : Int), .int .i64 (i : Int)] [V, VO] = some ([toS (pre ++ opsB l), .int .i64 0], noL) := by
  intro k
  induction k with
  | zero => intro i V _ h; omega
  | succ k ih =>
    intro i V hi hk hB
    refine Eq.trans (CFn.step _ rfl) ?_
    refine Eq.trans (evK_t (decide ((i : Int) < (l.length : Int))) rfl) ?_
    by_cases hlt : i < l.length
    · rw [decide_eq_true (by omega : (i : Int) < (l.length : Int)), cond_true]
      obtain ⟨e1, _⟩ := hV.elem (getI hlt)
      have b1 := opsB_len (l := l) i (by omega)
      have b2 := ht (i + 1) (by omega)
      have b3 := totAt_succ (getI hlt)
      have b4 := opsB_succ (getI hlt)
      have b5 : (pre ++ opsB (l.take i)).length ≤ 51 + 6 * i + totAt l i := by rw [List.length_append]; omega
      refine Eq.trans (evK_e (plV l[i]) e1 rfl) ?_
      refine Eq.trans (evK_l (opL l[i]) (opL l[i]) [] rfl rfl) ?_
      refine Eq.trans (evK_d (.int .u8 (u8 l[i].k)) rfl) ?_
      refine Eq.trans (evK_d (.int .u8 (u8 l[i].s)) rfl) ?_
      refine Eq.trans (evK_e (Eng.lv (rowB (pre ++ opsB (l.take i) ++ [u8 l[i].k, u8 l[i].s]))) (app2 hB (by omega) _ _) rfl) ?_
      have hB2 := BV.lv (pre ++ opsB (l.take i) ++ [u8 l[i].k, u8 l[i].s])
      have b6 : (pre ++ opsB (l.take i) ++ [u8 l[i].k, u8 l[i].s]).length ≤ 53 + 6 * i + totAt l i := by rw [List.length_append]; simp only [List.length_cons, List.length_nil]; omega
      refine Eq.trans (evK_t (l[i].k == 3) rfl) ?_
      by_cases h3 : l[i].k = 3
      · rw [beq_iff_eq.2 h3, cond_true]
        have b7 : opB l[i] = [u8 l[i].k, u8 l[i].s] ++ (be (u64 (l[i].b.size : Int)) 4 ++ bytesI l[i].b) := by unfold opB; rw [if_pos h3]
        obtain ⟨V2, e2, hB3⟩ := put_F (u64 (l[i].b.size : Int)) 4 hB2 (by omega) (by omega)
        have b8 : (pre ++ opsB (l.take i) ++ [u8 l[i].k, u8 l[i].s] ++ be (u64 (l[i].b.size : Int)) 4).length ≤ 57 + 6 * i + totAt l i := by rw [List.length_append, be_len]; omega
        obtain ⟨V3, e3, hB4⟩ := cat1 (m := bytesI l[i].b) hB3 (by rw [bytesI_len]; omega)
        refine Eq.trans (evK_d (.int .i64 ((l[i].b.size : Nat) : Int)) rfl) ?_
        refine Eq.trans (evK_d (.int .u64 (u64 ((l[i].b.size : Nat) : Int))) rfl) ?_
        refine Eq.trans (evK_c noL [V2] rfl e2) ?_
        refine Eq.trans (evK_e _ (ofs_sev l[i].b) rfl) ?_
        refine Eq.trans (evK_e V3 e3 rfl) ?_
        refine Eq.trans (evK_d (.int .i64 ((i + 1 : Nat) : Int)) (inc_sev hlt hV.short)) ?_
        refine ih (i + 1) V3 (by omega) (by omega) ?_
        rw [b4, b7]
        simpa only [List.append_assoc] using hB4
      · rw [beq_eq_false_iff_ne.2 h3, cond_false]
        refine Eq.trans (evK_t (l[i].k == 4) rfl) ?_
        by_cases h4 : l[i].k = 4
        · rw [beq_iff_eq.2 h4, cond_true]
          have b7 : opB l[i] = [u8 l[i].k, u8 l[i].s] ++ be (u64 l[i].n) 4 := by unfold opB; rw [if_neg h3, if_pos h4]
          obtain ⟨V2, e2, hB3⟩ := put_F (u64 l[i].n) 4 hB2 (by omega) (by omega)
          refine Eq.trans (evK_d (.int .u64 (u64 l[i].n)) rfl) ?_
          refine Eq.trans (evK_c noL [V2] rfl e2) ?_
          refine Eq.trans (evK_d (.int .i64 ((i + 1 : Nat) : Int)) (inc_sev hlt hV.short)) ?_
          refine ih (i + 1) V2 (by omega) (by omega) ?_
          rw [b4, b7]
          simpa only [List.append_assoc] using hB3
        · rw [beq_eq_false_iff_ne.2 h4, cond_false]
          have b7 : opB l[i] = [u8 l[i].k, u8 l[i].s] ++ [] := by unfold opB; rw [if_neg h3, if_neg h4]
          refine Eq.trans (evK_d (.int .i64 ((i + 1 : Nat) : Int)) (inc_sev hlt hV.short)) ?_
          refine ih (i + 1) (Eng.lv (rowB (pre ++ opsB (l.take i) ++ [u8 l[i].k, u8 l[i].s]))) (by omega) (by omega) ?_
          rw [b4, b7, List.append_nil]
          simpa only [List.append_assoc] using hB2
    · have : i = l.length := by omega
      subst this
      rw [decide_eq_false (by omega), cond_false]
      rw [List.take_length] at hB
      exact evK_es (toS (pre ++ opsB l)) (tos_sev hB) rfl
theorem hbytes_cF (l k : List Value) : hbytes_c.F l k = CFn.F (P := Tryz.prog) hbD hbytes_f l k := by kernel_rfl
/-- the bytes of a script, and the error -/
def bytesR (s : Su) (l : List OpV) : List Value := if chk s l = 0 then [toS (headB s l.length ++ opsB l), .int .i64 0] else [toS [], .int .i64 (chk s l)]
theorem chk_len {s : Su} {l : List OpV} (h : chk s l = 0) : l.length ≤ 400 := by
  unfold chk at h
  split at h
  · split at h
    · cases h
    · omega
  · cases h
theorem hbytes_F (s : Su) {VO : Value} {l : List OpV} (hV : OpsV VO l) (hs : su64 s) (htot : l.length ≤ 400 → ∀ i, i ≤ l.length → totAt l i ≤ 65536) :
    hbytes_c.F (suL s) [VO] = some (bytesR s l, noL) := by
  rw [hbytes_cF]
  have hh := hV.short
  refine CFn.begin (l.length + 3) (by unfold manyK; omega) ?_
  refine Eq.trans (CFn.step _ rfl) ?_
  refine Eq.trans (evK_c [.int .i64 (chk s l)] [] rfl (hchk_F s hV hs.1 hs.2.1 hs.2.2 htot)) ?_
  refine Eq.trans (evK_t (chk s l != 0) rfl) ?_
  unfold bytesR
  by_cases hc : chk s l = 0
  · have hl := chk_len hc
    rw [hc, if_pos rfl, show ((0 : Int) != 0) = false from rfl, cond_false]
    obtain ⟨V1, e1, h1⟩ := putNum_F s.x s.fx BV.nil (by simp)
    obtain ⟨V2, e2, h2⟩ := putNum_F s.y s.fy h1 (by simp only [List.length_append, be_len, numB_len, List.length_nil]; omega)
    obtain ⟨V3, e3, h3⟩ := putNum_F s.d s.fd h2 (by simp only [List.length_append, be_len, numB_len, List.length_nil]; omega)
    obtain ⟨V4, e4, h4⟩ := put_F (u64 s.m) 4 h3 (by simp only [List.length_append, be_len, numB_len, List.length_nil]; omega) (by omega)
    obtain ⟨V5, e5, h5⟩ := put_F (u64 s.r) 4 h4 (by simp only [List.length_append, be_len, numB_len, List.length_nil]; omega) (by omega)
    obtain ⟨V6, e6, h6⟩ := put_F (u64 s.ns) 4 h5 (by simp only [List.length_append, be_len, numB_len, List.length_nil]; omega) (by omega)
    obtain ⟨V7, e7, h7⟩ := put_F (u64 s.nt) 4 h6 (by simp only [List.length_append, be_len, numB_len, List.length_nil]; omega) (by omega)
    obtain ⟨V8, e8, h8⟩ := put_F (u64 s.nq) 4 h7 (by simp only [List.length_append, be_len, numB_len, List.length_nil]; omega) (by omega)
    obtain ⟨V9, e9, h9⟩ := put_F (u64 (l.length : Int)) 4 h8 (by simp only [List.length_append, be_len, numB_len, List.length_nil]; omega) (by omega)
    refine Eq.trans (evK_c noL [V1] rfl e1) ?_
    refine Eq.trans (evK_c noL [V2] rfl e2) ?_
    refine Eq.trans (evK_c noL [V3] rfl e3) ?_
    refine Eq.trans (evK_es (.int .i64 (l.length : Int)) hV.len rfl) ?_
    refine Eq.trans (evK_d (.int .u64 (u64 s.m)) rfl) ?_
    refine Eq.trans (evK_c noL [V4] rfl e4) ?_
    refine Eq.trans (evK_d (.int .u64 (u64 s.r)) rfl) ?_
    refine Eq.trans (evK_c noL [V5] rfl e5) ?_
    refine Eq.trans (evK_d (.int .u64 (u64 s.ns)) rfl) ?_
    refine Eq.trans (evK_c noL [V6] rfl e6) ?_
    refine Eq.trans (evK_d (.int .u64 (u64 s.nt)) rfl) ?_
    refine Eq.trans (evK_c noL [V7] rfl e7) ?_
    refine Eq.trans (evK_d (.int .u64 (u64 s.nq)) rfl) ?_
    refine Eq.trans (evK_c noL [V8] rfl e8) ?_
    refine Eq.trans (evK_d (.int .u64 (u64 (l.length : Int))) rfl) ?_
    refine Eq.trans (evK_c noL [V9] rfl e9) ?_
    refine hbytes_1 hV hl (htot hl) (headB s l.length) (headB_len s l.length) (l.length + 2) 0 V9 (by omega) (by omega) ?_
    rw [show opsB (l.take 0) = [] from rfl, List.append_nil]
    exact h9
  · rw [if_neg hc, bne_iff_ne.2 hc]
    rfl
theorem eqS (l : List Int) : sev (.bin .eql) [toS l, toS l] = some (.bool true) := by
  show some (Value.bool ((⟨⟨toL l⟩⟩ : ByteArray).data.toList == (⟨⟨toL l⟩⟩ : ByteArray).data.toList)) = _
  rw [beq_self_eq_true]
end Go.Proofs.YtfcjlgdpdomoeaaGreat.U
