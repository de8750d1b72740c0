/- The reader of scripts: the whole script; Read. -/
import Derived.Test.YtfcjlgdpdomoeaaGreatUS
set_option linter.unusedSimpArgs false
set_option linter.unusedVariables false
namespace Go.Proofs.YtfcjlgdpdomoeaaGreat.U
open Go Go.Eng
/-- a run that answers, or another that says why not -/
def TellsR (r1 r2 : Option (List Value × List Value)) (x : Except Int (List Value × List Value)) : Prop := match x with
  | .ok v => r1 = some v
  | .error e => r1 = none ∧ r2 = some ([.int .i64 e], noL)
theorem TR {r1 r1' r2 r2' : Option (List Value × List Value)} {x : Except Int (List Value × List Value)} (h1 : r1 = r1') (h2 : r2 = r2') (h : TellsR r1' r2' x) : TellsR r1 r2 x := by
  subst h1 h2
  exact h
noncomputable abbrev qD3 : List (Ctr Tryz.prog) := [qnum_c, qnump_c, qcount_c, qcountp_c, qtake_c, qtakep_c, qcut_c, qcutp_c]
def scrX (s : Su) (acc : List OpV) : Except Int (List OpV × List UInt8) → Except Int (List Value × List Value)
  | .ok (l, []) => .ok (sT [] :: suL s, [outV (acc ++ l)])
  | .ok (_, _ :: _) => .error 6
  | .error e => .error e
theorem scrX_op {s : Su} {acc : List OpV} {m : Nat} {t t1 : List UInt8} {o : OpV} (h : rOp t = .ok (o, t1)) : scrX s acc (rOps (m + 1) t) = scrX s (acc ++ [o]) (rOps m t1) := by
  have e : rOps (m + 1) t = rBnd (rOps m) (fun l => rRet (o :: l)) t1 := rBnd_at h
  rw [e]
  unfold rBnd rRet
  cases rOps m t1 with
  | error e => rfl
  | ok x =>
    obtain ⟨l, r⟩ := x
    cases r with
    | nil => show Except.ok (sT [] :: suL s, [outV (acc ++ o :: l)]) = Except.ok (sT [] :: suL s, [outV (acc ++ [o] ++ l)]); rw [List.append_assoc]; rfl
    | cons b r => rfl
theorem scrX_er {s : Su} {acc : List OpV} {m : Nat} {t : List UInt8} {e : Int} (h : rOp t = .error e) : scrX s acc (rOps (m + 1) t) = .error e := by
  have e : rOps (m + 1) t = .error e := rBnd_er h
  rw [e]
  rfl
theorem eqk_sev (k : Nat) (n : Nat) : sev (.bin .eql) [.int .i64 (k : Int), .int .i64 (n : Int)] = some (.bool (decide (k = n))) := by
  show some (Value.bool ((k : Int) == (n : Int))) = _
  congr 2
  by_cases h : k = n
  · subst h; rw [decide_eq_true rfl, beq_self_eq_true]
  · rw [decide_eq_false h, beq_false_of_ne (by omega)]
theorem leqi_sev (v : Nat) (n : Nat) : sev (.bin .leq) [.int .i64 (v : Int), .int .i64 (n : Int)] = some (.bool (decide (v ≤ n))) := by
  show some (Value.bool (decide ((v : Int) ≤ (n : Int)))) = _
  rw [decide_eq_decide.2 Int.ofNat_le]
theorem take_lt {n : Nat} {t r : List UInt8} {v : Nat} (h : rTake n t = .ok (v, r)) : v < 256 ^ n := by
  obtain ⟨_, _, _, e⟩ := Inv.take n t v r h
  exact e
theorem count_lt {t r : List UInt8} {v : Nat} (h : rCount t = .ok (v, r)) : v ≤ 2147483647 := by
  obtain ⟨_, _, _, e⟩ := Inv.count t v r h
  exact e
set_option maxHeartbeats 2000000 in
theorem script_1 (s : Su) (n : Nat) (hn : n ≤ 400) : ∀ (m k i : Nat) (t : List UInt8) (acc : List OpV), i + m = n → acc.length = i → m < k →
    TellsR (runT qD3 qscript_f k 1 (sT t :: suL s ++ [.int .i64 (n : Int), .int .i64 (i : Int)]) [outV acc]) (runT qD3 qscriptp_f k 1 (sT t :: suL s ++ [.int .i64 (n : Int), .int .i64 (i : Int)]) [outV acc]) (scrX s acc (rOps m t)) := by
  intro m
  induction m with
  | zero =>
    intro k i t acc hi ha hk
    obtain ⟨k, rfl⟩ : ∃ j, k = j + 1 := ⟨k - 1, by omega⟩
    refine TR (CFn.step _ rfl) (CFn.step _ rfl) ?_
    refine TR (evK_t (decide ((i : Int) < (n : Int))) rfl) (evK_t (decide ((i : Int) < (n : Int))) rfl) ?_
    rw [decide_eq_false (by omega), cond_false, cond_false]
    refine TR (evK_t (t == []) (eq_sev ⟨⟨t⟩⟩)) (evK_t (t == []) (eq_sev ⟨⟨t⟩⟩)) ?_
    cases t with
    | nil => show TellsR _ _ (.ok (sT [] :: suL s, [outV (acc ++ [])])); rw [List.append_nil]; exact rfl
    | cons b r => exact ⟨rfl, rfl⟩
  | succ m ih =>
    intro k i t acc hi ha hk
    obtain ⟨k, rfl⟩ : ∃ j, k = j + 1 := ⟨k - 1, by omega⟩
    refine TR (CFn.step _ rfl) (CFn.step _ rfl) ?_
    refine TR (evK_t (decide ((i : Int) < (n : Int))) rfl) (evK_t (decide ((i : Int) < (n : Int))) rfl) ?_
    rw [decide_eq_true (by omega), cond_true, cond_true]
    have c1 := take_T t (n := 1) (by omega)
    cases h1 : rTake 1 t with
    | error e =>
      rw [h1] at c1
      rw [scrX_er (e := e) (rBnd_er h1)]
      refine TR (evK_qT _ rfl rfl c1) (evK_qT _ rfl rfl c1) ?_
      exact ⟨rfl, rfl⟩
    | ok x =>
    obtain ⟨kd, t1⟩ := x
    rw [h1] at c1
    have b1 : kd < 256 := take_lt h1
    have c2 := take_T t1 (n := 1) (by omega)
    refine TR (evK_qT _ rfl rfl c1) (evK_qT _ rfl rfl c1) ?_
    refine TR (evK_d (.int .i64 (kd : Int)) (conv_i64 (by omega))) (evK_d (.int .i64 (kd : Int)) (conv_i64 (by omega))) ?_
    cases h2 : rTake 1 t1 with
    | error e =>
      rw [h2] at c2
      rw [scrX_er (e := e) (Eq.trans (rBnd_at h1) (rBnd_er h2))]
      refine TR (evK_qT _ rfl rfl c2) (evK_qT _ rfl rfl c2) ?_
      exact ⟨rfl, rfl⟩
    | ok x =>
    obtain ⟨se, t2⟩ := x
    rw [h2] at c2
    have b2 : se < 256 := take_lt h2
    refine TR (evK_qT _ rfl rfl c2) (evK_qT _ rfl rfl c2) ?_
    refine TR (evK_d (.int .i64 (se : Int)) (conv_i64 (by omega))) (evK_d (.int .i64 (se : Int)) (conv_i64 (by omega))) ?_
    refine TR (evK_t _ (eqk_sev kd 3)) (evK_t _ (eqk_sev kd 3)) ?_
    have hop : rOp t = (if kd = 3 then rBnd rCount (fun n => if n ≤ 65536 then rBnd (rCut n) (fun b => rRet (OpV.mk kd se ⟨⟨b⟩⟩ 0)) else rErr 6)
      else if kd = 4 then rBnd rCount (fun n => rRet (OpV.mk kd se ⟨⟨[]⟩⟩ n)) else rRet (OpV.mk kd se ⟨⟨[]⟩⟩ 0)) t2 := Eq.trans (rBnd_at h1) (rBnd_at h2)
    have c3 := count_T t2
    have inc : sev (.bin .add) [.int .i64 (i : Int), .int .i64 1] = some (.int .i64 ((i + 1 : Nat) : Int)) := inc_sev (n := n) (by omega) (by omega)
    by_cases hk3 : kd = 3
    · rw [decide_eq_true hk3, cond_true, cond_true]
      rw [if_pos hk3] at hop
      cases h3 : rCount t2 with
      | error e =>
        rw [h3] at c3
        rw [scrX_er (e := e) (Eq.trans hop (rBnd_er h3))]
        refine TR (evK_qT _ rfl rfl c3) (evK_qT _ rfl rfl c3) ?_
        exact ⟨rfl, rfl⟩
      | ok x =>
      obtain ⟨len, t3⟩ := x
      rw [h3] at c3
      have hop := Eq.trans hop (rBnd_at h3)
      refine TR (evK_qT _ rfl rfl c3) (evK_qT _ rfl rfl c3) ?_
      refine TR (evK_t _ (leqi_sev len 65536)) (evK_t _ (leqi_sev len 65536)) ?_
      by_cases hl : len ≤ 65536
      · rw [decide_eq_true hl, cond_true, cond_true]
        rw [if_pos hl] at hop
        have c4 := cut_T t3 len
        cases h4 : rCut len t3 with
        | error e =>
          rw [h4] at c4
          rw [scrX_er (e := e) (Eq.trans hop (rBnd_er h4))]
          refine TR (evK_qT _ rfl rfl c4) (evK_qT _ rfl rfl c4) ?_
          exact ⟨rfl, rfl⟩
        | ok x =>
        obtain ⟨b, t4⟩ := x
        rw [h4] at c4
        have hop : rOp t = .ok (OpV.mk kd se ⟨⟨b⟩⟩ 0, t4) := Eq.trans hop (rBnd_at h4)
        rw [scrX_op hop]
        refine TR (evK_qT _ rfl rfl c4) (evK_qT _ rfl rfl c4) ?_
        refine TR (evK_e _ (app4 (l := acc) (by omega) (OpV.mk kd se ⟨⟨b⟩⟩ 0)) rfl) (evK_e _ (app4 (l := acc) (by omega) (OpV.mk kd se ⟨⟨b⟩⟩ 0)) rfl) ?_
        refine TR (evK_d _ inc) (evK_d _ inc) ?_
        exact ih k (i + 1) t4 (acc ++ [OpV.mk kd se ⟨⟨b⟩⟩ 0]) (by omega) (by rw [List.length_append, ha]; rfl) (by omega)
      · rw [decide_eq_false hl, cond_false, cond_false]
        rw [if_neg hl] at hop
        rw [scrX_er (e := 6) hop]
        exact ⟨rfl, rfl⟩
    · rw [decide_eq_false hk3, cond_false, cond_false]
      rw [if_neg hk3] at hop
      refine TR (evK_t _ (eqk_sev kd 4)) (evK_t _ (eqk_sev kd 4)) ?_
      by_cases hk4 : kd = 4
      · rw [decide_eq_true hk4, cond_true, cond_true]
        rw [if_pos hk4] at hop
        cases h3 : rCount t2 with
        | error e =>
          rw [h3] at c3
          rw [scrX_er (e := e) (Eq.trans hop (rBnd_er h3))]
          refine TR (evK_qT _ rfl rfl c3) (evK_qT _ rfl rfl c3) ?_
          exact ⟨rfl, rfl⟩
        | ok x =>
        obtain ⟨len, t3⟩ := x
        rw [h3] at c3
        have hop : rOp t = .ok (OpV.mk kd se ⟨⟨[]⟩⟩ len, t3) := Eq.trans hop (rBnd_at h3)
        rw [scrX_op hop]
        refine TR (evK_qT _ rfl rfl c3) (evK_qT _ rfl rfl c3) ?_
        refine TR (evK_e _ (app4 (l := acc) (by omega) (OpV.mk kd se ⟨⟨[]⟩⟩ len)) rfl) (evK_e _ (app4 (l := acc) (by omega) (OpV.mk kd se ⟨⟨[]⟩⟩ len)) rfl) ?_
        refine TR (evK_d _ inc) (evK_d _ inc) ?_
        exact ih k (i + 1) t3 (acc ++ [OpV.mk kd se ⟨⟨[]⟩⟩ len]) (by omega) (by rw [List.length_append, ha]; rfl) (by omega)
      · rw [decide_eq_false hk4, cond_false, cond_false]
        rw [if_neg hk4] at hop
        have hop : rOp t = .ok (OpV.mk kd se ⟨⟨[]⟩⟩ 0, t2) := hop
        rw [scrX_op hop]
        refine TR (evK_e _ (app4 (l := acc) (by omega) (OpV.mk kd se ⟨⟨[]⟩⟩ 0)) rfl) (evK_e _ (app4 (l := acc) (by omega) (OpV.mk kd se ⟨⟨[]⟩⟩ 0)) rfl) ?_
        refine TR (evK_d _ inc) (evK_d _ inc) ?_
        exact ih k (i + 1) t2 (acc ++ [OpV.mk kd se ⟨⟨[]⟩⟩ 0]) (by omega) (by rw [List.length_append, ha]; rfl) (by omega)
theorem qscript_cF (l k : List Value) : qscript_c.F l k = CFn.F (P := Tryz.prog) qD3 qscript_f l k := by kernel_rfl
theorem qscriptp_cF (l k : List Value) : qscriptp_c.F l k = CFn.F (P := Tryz.prog) qD3 qscriptp_f l k := by kernel_rfl
def scrT : Except Int ((Su × List OpV) × List UInt8) → Except Int (List Value × List Value)
  | .ok ((s, l), _) => .ok (sT [] :: suL s, [outV l])
  | .error e => .error e
theorem scrT_er {t : List UInt8} {e : Int} (h : rHead t = .error e) : scrT (rScript t) = .error e := by
  have h1 : rScript t = .error e := rBnd_er (rBnd_er h)
  rw [h1]
  rfl
theorem scrT_ok {t r : List UInt8} {s : Su} {n : Nat} (h : rHead t = .ok ((s, n), r)) : scrT (rScript t) = scrX s [] (rOps n r) := by
  have h1 : rBody t = rBnd (rOps n) (fun l => rRet (s, l)) r := rBnd_at h
  unfold rScript
  cases h2 : rOps n r with
  | error e =>
    have h3 : rBody t = .error e := Eq.trans h1 (rBnd_er h2)
    rw [rBnd_er h3]
    rfl
  | ok x =>
    obtain ⟨l, r2⟩ := x
    have h3 : rBody t = .ok ((s, l), r2) := Eq.trans h1 (rBnd_at h2)
    rw [rBnd_at h3]
    cases r2 with
    | nil => rfl
    | cons b r2 => rfl
set_option maxHeartbeats 2000000 in
theorem script_T (t : List UInt8) : Tells qscript_c qscriptp_c [sT t] noL (scrT (rScript t)) := by
  show TellsR (qscript_c.F [sT t] noL) (qscriptp_c.F [sT t] noL) (scrT (rScript t))
  rw [qscript_cF, qscriptp_cF]
  refine TR (CFn.flatE _ rfl) (CFn.flatE _ rfl) ?_
  have c1 := num_T t
  cases h1 : rNum t with
  | error e =>
    rw [h1] at c1
    rw [scrT_er (rBnd_er h1)]
    refine TR (evK_qT _ rfl rfl c1) (evK_qT _ rfl rfl c1) ?_
    exact ⟨rfl, rfl⟩
  | ok x =>
  obtain ⟨x, t1⟩ := x
  rw [h1] at c1
  refine TR (evK_qT _ rfl rfl c1) (evK_qT _ rfl rfl c1) ?_
  have c2 := num_T t1
  cases h2 : rNum t1 with
  | error e =>
    rw [h2] at c2
    rw [scrT_er (e := e) (by unfold rHead; rw [rBnd_at h1, rBnd_er h2])]
    refine TR (evK_qT _ rfl rfl c2) (evK_qT _ rfl rfl c2) ?_
    exact ⟨rfl, rfl⟩
  | ok y =>
  obtain ⟨y, t2⟩ := y
  rw [h2] at c2
  refine TR (evK_qT _ rfl rfl c2) (evK_qT _ rfl rfl c2) ?_
  have c3 := num_T t2
  cases h3 : rNum t2 with
  | error e =>
    rw [h3] at c3
    rw [scrT_er (e := e) (by unfold rHead; rw [rBnd_at h1, rBnd_at h2, rBnd_er h3])]
    refine TR (evK_qT _ rfl rfl c3) (evK_qT _ rfl rfl c3) ?_
    exact ⟨rfl, rfl⟩
  | ok d =>
  obtain ⟨d, t3⟩ := d
  rw [h3] at c3
  refine TR (evK_qT _ rfl rfl c3) (evK_qT _ rfl rfl c3) ?_
  have c4 := count_T t3
  cases h4 : rCount t3 with
  | error e =>
    rw [h4] at c4
    rw [scrT_er (e := e) (by unfold rHead; rw [rBnd_at h1, rBnd_at h2, rBnd_at h3, rBnd_er h4])]
    refine TR (evK_qT _ rfl rfl c4) (evK_qT _ rfl rfl c4) ?_
    exact ⟨rfl, rfl⟩
  | ok m =>
  obtain ⟨m, t4⟩ := m
  rw [h4] at c4
  refine TR (evK_qT _ rfl rfl c4) (evK_qT _ rfl rfl c4) ?_
  have c5 := count_T t4
  cases h5 : rCount t4 with
  | error e =>
    rw [h5] at c5
    rw [scrT_er (e := e) (by unfold rHead; rw [rBnd_at h1, rBnd_at h2, rBnd_at h3, rBnd_at h4, rBnd_er h5])]
    refine TR (evK_qT _ rfl rfl c5) (evK_qT _ rfl rfl c5) ?_
    exact ⟨rfl, rfl⟩
  | ok r =>
  obtain ⟨r, t5⟩ := r
  rw [h5] at c5
  refine TR (evK_qT _ rfl rfl c5) (evK_qT _ rfl rfl c5) ?_
  have c6 := count_T t5
  cases h6 : rCount t5 with
  | error e =>
    rw [h6] at c6
    rw [scrT_er (e := e) (by unfold rHead; rw [rBnd_at h1, rBnd_at h2, rBnd_at h3, rBnd_at h4, rBnd_at h5, rBnd_er h6])]
    refine TR (evK_qT _ rfl rfl c6) (evK_qT _ rfl rfl c6) ?_
    exact ⟨rfl, rfl⟩
  | ok ns =>
  obtain ⟨ns, t6⟩ := ns
  rw [h6] at c6
  refine TR (evK_qT _ rfl rfl c6) (evK_qT _ rfl rfl c6) ?_
  have c7 := count_T t6
  cases h7 : rCount t6 with
  | error e =>
    rw [h7] at c7
    rw [scrT_er (e := e) (by unfold rHead; rw [rBnd_at h1, rBnd_at h2, rBnd_at h3, rBnd_at h4, rBnd_at h5, rBnd_at h6, rBnd_er h7])]
    refine TR (evK_qT _ rfl rfl c7) (evK_qT _ rfl rfl c7) ?_
    exact ⟨rfl, rfl⟩
  | ok nt =>
  obtain ⟨nt, t7⟩ := nt
  rw [h7] at c7
  refine TR (evK_qT _ rfl rfl c7) (evK_qT _ rfl rfl c7) ?_
  have c8 := count_T t7
  cases h8 : rCount t7 with
  | error e =>
    rw [h8] at c8
    rw [scrT_er (e := e) (by unfold rHead; rw [rBnd_at h1, rBnd_at h2, rBnd_at h3, rBnd_at h4, rBnd_at h5, rBnd_at h6, rBnd_at h7, rBnd_er h8])]
    refine TR (evK_qT _ rfl rfl c8) (evK_qT _ rfl rfl c8) ?_
    exact ⟨rfl, rfl⟩
  | ok nq =>
  obtain ⟨nq, t8⟩ := nq
  rw [h8] at c8
  refine TR (evK_qT _ rfl rfl c8) (evK_qT _ rfl rfl c8) ?_
  have c9 := count_T t8
  cases h9 : rCount t8 with
  | error e =>
    rw [h9] at c9
    rw [scrT_er (e := e) (by unfold rHead; rw [rBnd_at h1, rBnd_at h2, rBnd_at h3, rBnd_at h4, rBnd_at h5, rBnd_at h6, rBnd_at h7, rBnd_at h8, rBnd_er h9])]
    refine TR (evK_qT _ rfl rfl c9) (evK_qT _ rfl rfl c9) ?_
    exact ⟨rfl, rfl⟩
  | ok n =>
  obtain ⟨n, t9⟩ := n
  rw [h9] at c9
  refine TR (evK_qT _ rfl rfl c9) (evK_qT _ rfl rfl c9) ?_
  have hh : rHead t = (if n ≤ 400 then rRet (Su.mk x.1 y.1 d.1 m r ns nt nq x.2 y.2 d.2, n) else rErr 6) t9 := by
    unfold rHead
    rw [rBnd_at h1, rBnd_at h2, rBnd_at h3, rBnd_at h4, rBnd_at h5, rBnd_at h6, rBnd_at h7, rBnd_at h8, rBnd_at h9]
  refine TR (evK_t _ (leqi_sev n 400)) (evK_t _ (leqi_sev n 400)) ?_
  by_cases hn : n ≤ 400
  · rw [decide_eq_true hn, cond_true, cond_true]
    rw [if_pos hn] at hh
    rw [scrT_ok hh]
    exact script_1 (Su.mk x.1 y.1 d.1 m r ns nt nq x.2 y.2 d.2) n hn n 1180591620717411303423 0 t9 [] (by omega) rfl (by omega)
  · rw [decide_eq_false hn, cond_false, cond_false]
    rw [if_neg hn] at hh
    rw [scrT_er hh]
    exact ⟨rfl, rfl⟩
theorem totAt_B (l : List OpV) : ∀ i, i ≤ l.length → totAt l i ≤ totB l := by
  intro i hi
  have := totB_take l i hi
  omega
theorem outV_V {l : List OpV} (h : ∀ o ∈ l, opW o) (hn : l.length ≤ 400) : OpsV (outV l) l := by
  cases l with
  | nil => exact .zero
  | cons o r =>
    refine .row (o :: r) (by omega) (fun x hx => ?_)
    obtain ⟨a, b, c, d⟩ := h x hx
    exact ⟨a, b, c, by omega⟩
noncomputable abbrev rdD : List (Ctr Tryz.prog) := [qscript_c, qscriptp_c, hchk_c]
theorem read_cF (l k : List Value) : read_c.F l k = CFn.F (P := Tryz.prog) rdD read_f l k := by kernel_rfl
/-- what Read answers -/
def readR : Except Int ((Su × List OpV) × List UInt8) → List Value × List Value
  | .ok ((s, l), _) => if chk s l = 0 then (suL s ++ [.int .i64 0], [outV l]) else (zeroL ++ [.int .i64 (chk s l)], [.slice none 0 0])
  | .error e => (zeroL ++ [.int .i64 e], [.slice none 0 0])
theorem read_F {t : List UInt8} (ht : t.length ≤ 65536) : read_c.F [sT t] noL = some (readR (rScript t)) := by
  rw [read_cF]
  refine CFn.flat _ rfl ?_
  have c1 := script_T t
  cases h1 : rScript t with
  | error e =>
    rw [h1] at c1
    refine Eq.trans (evK_qT _ rfl rfl c1) ?_
    rfl
  | ok x =>
    obtain ⟨⟨s, l⟩, r⟩ := x
    rw [h1] at c1
    obtain ⟨_, hs, hn, hw, htot⟩ := inv_script h1
    have hc := hchk_F s (outV_V hw hn) hs.1 hs.2.1 hs.2.2 (fun _ i hi => by have := totAt_B l i hi; omega)
    refine Eq.trans (evK_qT _ rfl rfl c1) ?_
    refine Eq.trans (evK_c [.int .i64 (chk s l)] [] rfl hc) ?_
    refine Eq.trans (evK_t (chk s l == 0) rfl) ?_
    by_cases h0 : chk s l = 0
    · have e : readR (.ok ((s, l), r)) = (suL s ++ [.int .i64 0], [outV l]) := if_pos h0
      rw [e, h0]
      rfl
    · have e : readR (.ok ((s, l), r)) = (zeroL ++ [.int .i64 (chk s l)], [.slice none 0 0]) := if_neg h0
      rw [e, beq_false_of_ne h0, cond_false]
      rfl
end Go.Proofs.YtfcjlgdpdomoeaaGreat.U
