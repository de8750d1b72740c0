/- ServerSetups: servers without sessions: made, copied, counted. -/
import Derived.Test.YtkgfckenobmleaaGreatVF
set_option linter.unusedSimpArgs false
set_option linter.unusedVariables false
namespace Go.Proofs.YtkgfckenobmleaaGreat.U
open Go Go.Eng
/-- a body that is not there; its corners -/
def zB (p : Value) : List Value := [.int .i64 0, .int .i64 0, .int .i64 0, .int .i64 0, p, .int .i64 0, .bool false, .int .i64 0, .bool false, .int .i64 0, .bool false, .int .i64 0, .bool false, .int .i64 0, .bool false, .int .i64 0, .bool false, .int .i64 0, .bool false, .int .i64 0, .bool false, .int .i64 0, .bool false, .int .i64 0, .bool false, .bool false, .int .i64 0]
def zS : List Value := [.int .i64 0, .int .i64 0, .int .i64 0, .int .i64 0, .int .i64 0, .bool false, .int .i64 0, .bool false, .int .i64 0, .bool false, .int .i64 0, .bool false, .int .i64 0, .bool false, .int .i64 0, .bool false, .int .i64 0, .bool false, .int .i64 0, .bool false, .int .i64 0, .bool false, .int .i64 0, .bool false, .bool false, .int .i64 0]
abbrev nilV : Value := .slice none 0 0
def fl17 : List Value := [.bool false, .bool false, .bool false, .bool false, .bool false, .bool false, .bool false, .bool false, .bool false, .bool false, .bool false, .bool false, .bool false, .bool false, .bool false, .bool false, .bool false]
def i0 : Value := .int .i64 0
/-- the scalars of a world, a room, a server without sessions; and of the reference's -/
def wS (s : Su) : List Value := [.int .u64 0] ++ roomL s ++ [i0, i0]
def rS (s : Su) : List Value := wS s ++ fl17
def sS (s : Su) : List Value := suL s ++ wS s ++ fl17 ++ [i0, i0]
def qwS (s : Su) : List Value := roomL s ++ [i0, i0]
def qrS (s : Su) : List Value := qwS s ++ fl17
def qS (s : Su) : List Value := suL s ++ qwS s ++ fl17 ++ [i0, i0]
def gV (n : Nat) : Value := lv (List.replicate n [i0])
def tV (n : Nat) : Value := lv (List.replicate n [.bool false])
def bV (p : Value) (n : Nat) : Value := lv (List.replicate n (zB p))
theorem lenR (n : Nat) (r : List Value) : lsev .len [lv (List.replicate n r)] = some (.int .i64 (n : Int)) := by
  simp only [lsev, lrows_lv, Option.map_some, List.length_replicate]
  rfl
def plR (r : List Value) : Value := .iface 0 (.agg ⟨r⟩)
theorem elemR {n i k : Nat} {r : List Value} (h : i < n) (hr : r.length = k) (hk : 1 ≤ k) : lsev (.iad k) [lv (List.replicate n r), .int .i64 (i : Int)] = some (plR r) := by
  have h2 : (List.replicate n r)[i]? = some r := by rw [List.getElem?_replicate, if_pos h]
  simp only [lsev, lrows_lv, int1_nat, h2, hr, Nat.beq_refl, Nat.ble_eq_true_of_le hk, Bool.and_self, cond_true]
  rfl
theorem setR {n i k : Nat} {r : List Value} (h : i < n) (hr : r.length = k) : lsev (.set k 0) ([lv (List.replicate n r), .int .i64 (i : Int)] ++ r) = some (lv (List.replicate n r)) := by
  have h2 : (List.replicate n r)[i]? = some r := by rw [List.getElem?_replicate, if_pos h]
  have h3 : setRow (List.replicate n r) i 0 r = List.replicate n r := by
    unfold setRow
    rw [h2]
    simp only [List.take_zero, List.nil_append, Nat.zero_add, List.drop_length, List.append_nil]
    apply List.ext_getElem?
    intro j
    rw [List.getElem?_set]
    split
    · rename_i hj
      subst hj
      rw [if_pos (by rw [List.length_replicate]; exact h), h2]
    · rfl
  show (match lrows (lv (List.replicate n r)), int1 (.int .i64 (i : Int)) with
    | some rs, some i => match rs[i]? with
      | some r' => bif Nat.beq r'.length k && Nat.ble (0 + r.length) k && !isNilL (lv (List.replicate n r)) then some (lv (setRow rs i 0 r)) else none
      | none => none
    | _, _ => none) = _
  simp only [lrows_lv, int1_nat, h2, h3, hr, Nat.zero_add, Nat.beq_refl, Nat.ble_eq_true_of_le (Nat.le_refl k)]
  rfl
theorem repR (n : Nat) (r : List Value) : lsev .rep ([.int .i64 (n : Int)] ++ r) = some (lv (List.replicate n r)) := by
  show (int1 (.int .i64 (n : Int))).map (fun n => lv (List.replicate n r)) = _
  rw [int1_nat]
  rfl
theorem appR {n k : Nat} {r : List Value} (hr : r.length = k) (hk : 1 ≤ k) (hn : n + k ≤ 1048576) : lsev (.app k) ([lv (List.replicate n r)] ++ r) = some (lv (List.replicate (n + 1) r)) := by
  have hc : chunk k r.length r = [r] := by
    cases r with
    | nil => simp at hr; omega
    | cons a t =>
      show (a :: t).take k :: chunk k t.length ((a :: t).drop k) = _
      rw [List.take_of_length_le (by omega), List.drop_of_length_le (by omega)]
      cases t.length <;> rfl
  have h1 : Nat.beq (r.length % k) 0 = true := by rw [hr, Nat.mod_self]; rfl
  have h2 : Nat.ble ((List.replicate n r).length + r.length) 1048576 = true := Nat.ble_eq_true_of_le (by rw [List.length_replicate, hr]; exact hn)
  have h3 : Nat.ble 1 r.length = true := Nat.ble_eq_true_of_le (by omega)
  show (match lrows (lv (List.replicate n r)) with
    | some rs => bif Nat.ble 1 k && Nat.ble 1 r.length && Nat.beq (r.length % k) 0 && Nat.ble (rs.length + r.length) 1048576 then some (lv (rs ++ chunk k r.length r)) else none
    | none => none) = _
  simp only [lrows_lv, h1, h2, h3, Nat.ble_eq_true_of_le hk, hc, Bool.and_self, cond_true]
  rw [List.replicate_succ']
def eP : Value := lv []
theorem zB_len (p : Value) : (zB p).length = 27 := rfl
theorem bcopy_F : bcopy_c.F zS [nilV] = some (zS, [nilV]) := by kernel_rfl
theorem q5copy_F1 : q5copy_c.F zS [nilV] = some (zS, [eP]) := by kernel_rfl
theorem q5copy_F2 : q5copy_c.F zS [eP] = some (zS, [eP]) := by kernel_rfl
/-- a list that grows from nothing -/
def outB (p : Value) (n : Nat) : Value := match n with
  | 0 => nilV
  | n + 1 => bV p (n + 1)
theorem outB_0 (p : Value) : lsev (.app 27) ([nilV] ++ zB p) = some (bV p 1) := by kernel_rfl
theorem outB_app {p : Value} {n : Nat} (hn : n + 27 ≤ 1048576) : lsev (.app 27) ([outB p n] ++ zB p) = some (outB p (n + 1)) := by
  cases n with
  | zero => exact outB_0 p
  | succ n => exact appR (zB_len p) (by decide) hn
theorem ck_num {s : Su} (h : ckSv s = 0) : ckRoom s = 0 ∧ 1 ≤ s.m ∧ s.m ≤ 64 := by
  unfold ckSv at h
  split at h
  · rename_i hr
    refine ⟨hr, ?_⟩
    unfold ckRoom ckS at hr
    split at hr
    · rename_i ho
      obtain ⟨_, _, _, _, _, _, _, _, _, h7, h8, _⟩ := ho
      exact ⟨h7, h8⟩
    · cases hr
  · cases h
theorem clone_F (n : Nat) (hn : n ≤ 64) : clone_c.F [] [gV n] = some ([], [gV n]) := by
  have hl : aggs ((List.replicate n [i0]).map fun r => Value.agg ⟨r⟩) = some (List.replicate n [i0]) := aggs_map _
  have ha : (List.replicate n [i0]).all (fun r => Nat.beq r.length 1 && r.all isOneV) = true := by
    rw [List.all_eq_true]
    intro r hr
    rw [(List.mem_replicate.1 hr).2]
    rfl
  show (match aggs ((List.replicate n [i0]).map fun r => Value.agg ⟨r⟩) with
    | some l => bif l.all (fun r => Nat.beq r.length 1 && r.all isOneV) && Nat.ble l.length 1048576 then some (([] : List Value), [lv l]) else none
    | none => none) = _
  rw [hl]
  simp only [ha, List.length_replicate, Nat.ble_eq_true_of_le (by omega : n ≤ 1048576), Bool.and_self, cond_true]
  rfl
noncomputable abbrev wcD : List (Ctr Tryz.prog) := [clone_c, bcopy_c]
theorem wcopy_1 (s : Su) (n : Nat) (hn : n ≤ 64) : ∀ (k i : Nat), i ≤ n → n - i < k → CFn.run (P := Tryz.prog) wcD wcopy_f k 1 (envL (wS s ++ wS s ++ [.int .i64 (n : Int), .int .i64 (i : Int)]) [gV n, bV nilV n, gV n, bV nilV n]) = some (wS s ++ wS s, [gV n, bV nilV n, gV n, bV nilV n]) := by
  intro k
  induction k with
  | zero => intro i _ h; omega
  | succ k ih =>
    intro i hi hk
    refine Eq.trans (CFn.step _ rfl) ?_
    refine Eq.trans (evK_t (decide ((i : Int) < (n : Int))) rfl) ?_
    by_cases hlt : i < n
    · rw [decide_eq_true (by omega : (i : Int) < (n : Int)), cond_true]
      refine Eq.trans (evK_e (plR (zB nilV)) (elemR hlt (zB_len _) (by decide)) rfl) ?_
      refine Eq.trans (evK_l (zB nilV) zS [nilV] rfl rfl) ?_
      refine Eq.trans (evK_c zS [nilV] rfl bcopy_F) ?_
      refine Eq.trans (evK_e (plR (zB nilV)) (elemR hlt (zB_len _) (by decide)) rfl) ?_
      refine Eq.trans (evK_e (bV nilV n) (setR hlt (zB_len nilV)) rfl) ?_
      refine Eq.trans (evK_d (.int .i64 ((i + 1 : Nat) : Int)) (inc_sev hlt (by omega))) ?_
      exact ih (i + 1) (by omega) (by omega)
    · have : i = n := by omega
      subst this
      rw [decide_eq_false (by omega), cond_false]
      rfl
theorem wcopy_cF (l k : List Value) : wcopy_c.F l k = CFn.F (P := Tryz.prog) wcD wcopy_f l k := by kernel_rfl
theorem leq_big {n : Nat} (hn : n ≤ 64) : sev (.bin .leq) [.int .i64 (n : Int), .int .i64 1048576] = some (.bool true) := by
  show some (Value.bool (decide ((n : Int) ≤ 1048576))) = _
  rw [decide_eq_true (by omega)]
theorem eql_0 {n : Nat} (hn : 1 ≤ n) : sev (.bin .eql) [.int .i64 (n : Int), .int .i64 0] = some (.bool false) := by
  show some (Value.bool ((n : Int) == 0)) = _
  rw [beq_false_of_ne (by omega)]
theorem wcopy_F (s : Su) {n : Nat} (h1 : 1 ≤ n) (hn : n ≤ 64) : wcopy_c.F (wS s) [gV n, bV nilV n] = some (wS s ++ wS s, [gV n, bV nilV n, gV n, bV nilV n]) := by
  rw [wcopy_cF]
  refine CFn.begin (n + 2) (by unfold manyK; omega) ?_
  refine Eq.trans (CFn.step _ rfl) ?_
  refine Eq.trans (evK_es _ (lenR n [i0]) rfl) ?_
  refine Eq.trans (evK_t false (eql_0 h1)) ?_
  rw [cond_false]
  refine Eq.trans (evK_c [] [gV n] rfl (clone_F n hn)) ?_
  refine Eq.trans (evK_es _ (lenR n (zB nilV)) rfl) ?_
  refine Eq.trans (evK_t true (leq_big hn)) ?_
  rw [cond_true]
  refine Eq.trans (evK_e (bV nilV n) (repR n (zB nilV)) rfl) ?_
  exact wcopy_1 s n hn (n + 1) 0 (by omega) (by omega)
noncomputable abbrev rcD : List (Ctr Tryz.prog) := [wcopy_c]
theorem rcopy_cF (l k : List Value) : rcopy_c.F l k = CFn.F (P := Tryz.prog) rcD rcopy_f l k := by kernel_rfl
theorem rcopy_F (s : Su) {n : Nat} (h1 : 1 ≤ n) (hn : n ≤ 64) : rcopy_c.F (rS s) [gV n, bV nilV n] = some (rS s ++ rS s, [gV n, bV nilV n, gV n, bV nilV n]) := by
  rw [rcopy_cF]
  refine CFn.flat _ rfl ?_
  refine Eq.trans (evK_c _ _ rfl (wcopy_F s h1 hn)) ?_
  rfl
theorem rworld_cF (l k : List Value) : rworld_c.F l k = CFn.F (P := Tryz.prog) rcD rworld_f l k := by kernel_rfl
theorem rworld_F (s : Su) {n : Nat} (h1 : 1 ≤ n) (hn : n ≤ 64) : rworld_c.F (rS s) [gV n, bV nilV n] = some (rS s ++ wS s, [gV n, bV nilV n, gV n, bV nilV n]) := by
  rw [rworld_cF]
  refine CFn.flat _ rfl ?_
  refine Eq.trans (evK_c _ _ rfl (wcopy_F s h1 hn)) ?_
  rfl
noncomputable abbrev roD : List (Ctr Tryz.prog) := [rcopy_c]
theorem room_cF (l k : List Value) : room_c.F l k = CFn.F (P := Tryz.prog) roD room_f l k := by kernel_rfl
theorem room_F (s : Su) {n : Nat} (h1 : 1 ≤ n) (hn : n ≤ 64) : room_c.F (sS s) [gV n, bV nilV n] = some (sS s ++ rS s, [gV n, bV nilV n, gV n, bV nilV n]) := by
  rw [room_cF]
  refine CFn.flat _ rfl ?_
  refine Eq.trans (evK_c _ _ rfl (rcopy_F s h1 hn)) ?_
  rfl
theorem sall_1 (n : Nat) (hn : n ≤ 64) : ∀ (k i : Nat), i ≤ n → n - i < k → CFn.run (P := Tryz.prog) [] sall_f k 1 (envL [.int .u64 0, .int .i64 (n : Int), .int .i64 (i : Int)] [gV n, nilV]) = some ([.int .u64 0], [gV n, nilV]) := by
  intro k
  induction k with
  | zero => intro i _ h; omega
  | succ k ih =>
    intro i hi hk
    refine Eq.trans (CFn.step _ rfl) ?_
    refine Eq.trans (evK_t (decide ((i : Int) < (n : Int))) rfl) ?_
    by_cases hlt : i < n
    · rw [decide_eq_true (by omega : (i : Int) < (n : Int)), cond_true]
      refine Eq.trans (evK_es _ (lenR n [i0]) rfl) ?_
      refine Eq.trans (evK_t false (eql_0 (by omega : 1 ≤ n))) ?_
      rw [cond_false]
      refine Eq.trans (evK_t (decide ((i : Int) < 0)) rfl) ?_
      rw [decide_eq_false (by omega), cond_false]
      refine Eq.trans (evK_t (decide ((i : Int) ≥ (n : Int))) rfl) ?_
      rw [decide_eq_false (by omega), cond_false]
      refine Eq.trans (evK_d (.int .u64 (i : Int)) (by
        show some (Value.int .u64 (IntKind.u64.wrap (i : Int))) = _
        rw [wrapU64, Int.emod_eq_of_lt (by omega) (by omega)])) ?_
      refine Eq.trans (evK_d (.int .u64 0) (by
        show pureSem (Op.shift .shr .u64 0 .u64 (i : Int)) = _
        unfold Op.shift
        rw [if_neg (by omega)]
        show some (Value.int .u64 ((0 : Int).fdiv _)) = _
        rw [Int.zero_fdiv])) ?_
      refine Eq.trans (evK_d (.int .u64 0) rfl) ?_
      refine Eq.trans (evK_t false rfl) ?_
      rw [cond_false]
      refine Eq.trans (evK_d (.int .i64 ((i + 1 : Nat) : Int)) (inc_sev hlt (by omega))) ?_
      exact ih (i + 1) (by omega) (by omega)
    · have : i = n := by omega
      subst this
      rw [decide_eq_false (by omega), cond_false]
      rfl
theorem sall_cF (l k : List Value) : sall_c.F l k = CFn.F (P := Tryz.prog) [] sall_f l k := by kernel_rfl
theorem sall_F {n : Nat} (h1 : 1 ≤ n) (hn : n ≤ 64) : sall_c.F [.int .u64 0] [gV n] = some ([.int .u64 0], [gV n, nilV]) := by
  rw [sall_cF]
  refine CFn.begin (n + 2) (by unfold manyK; omega) ?_
  refine Eq.trans (CFn.step _ rfl) ?_
  refine Eq.trans (evK_es _ (lenR n [i0]) rfl) ?_
  refine Eq.trans (evK_t false (eql_0 h1)) ?_
  rw [cond_false]
  exact sall_1 n hn (n + 1) 0 (by omega) (by omega)
noncomputable abbrev coD : List (Ctr Tryz.prog) := [sall_c]
theorem rcount_cF (l k : List Value) : rcount_c.F l k = CFn.F (P := Tryz.prog) coD rcount_f l k := by kernel_rfl
theorem rcount_F (s : Su) {n : Nat} (h1 : 1 ≤ n) (hn : n ≤ 64) : rcount_c.F (rS s) [gV n, bV nilV n] = some (rS s ++ [i0], [gV n, bV nilV n]) := by
  rw [rcount_cF]
  refine CFn.flat _ rfl ?_
  refine Eq.trans (evK_c _ _ rfl (sall_F h1 hn)) ?_
  refine Eq.trans (evK_es i0 rfl rfl) ?_
  rfl
set_option maxRecDepth 100000 in
theorem rsess_F (s : Su) (G B : Value) : rsess_c.F (rS s) [G, B] = some (rS s, [G, B, nilV]) := by kernel_rfl
set_option maxRecDepth 100000 in
theorem qrsess_F (s : Su) (G T B : Value) : qrsess_c.F (qrS s) [G, T, B] = some (qrS s, [G, T, B, nilV]) := by kernel_rfl
theorem catR {n k : Nat} {r : List Value} (h1 : 1 ≤ n) (hn : n ≤ 64) (hr : r.length = k) : lsev (.cat k) [nilV, lv (List.replicate n r)] = some (lv (List.replicate n r)) := by
  obtain ⟨m, rfl⟩ : ∃ m, n = m + 1 := ⟨n - 1, by omega⟩
  have ha : (r :: List.replicate m r).all (fun r => Nat.beq r.length k) = true := by
    rw [List.all_eq_true]
    intro x hx
    rcases List.mem_cons.1 hx with rfl | hx
    · rw [hr, Nat.beq_refl]
    · rw [(List.mem_replicate.1 hx).2, hr, Nat.beq_refl]
  have hl : Nat.ble (([] : List (List Value)).length + (r :: List.replicate m r).length) 1048576 = true := Nat.ble_eq_true_of_le (by simp; omega)
  show (match lrows nilV, lrows (lv (List.replicate (m + 1) r)) with
    | some rs, some ts => match ts with
      | [] => some nilV
      | _ :: _ => bif Nat.ble (rs.length + ts.length) 1048576 && ts.all (fun r => Nat.beq r.length k) then some (lv (rs ++ ts)) else none
    | _, _ => none) = _
  rw [lrows_lv, List.replicate_succ]
  show (bif Nat.ble (([] : List (List Value)).length + (r :: List.replicate m r).length) 1048576 && (r :: List.replicate m r).all (fun r => Nat.beq r.length k) then some (lv ([] ++ r :: List.replicate m r)) else none) = _
  rw [hl, ha]
  rfl
noncomputable abbrev qcD : List (Ctr Tryz.prog) := [q5copy_c]
theorem qwcopy_1 (s : Su) (p : Value) (hp : q5copy_c.F zS [p] = some (zS, [eP])) (n : Nat) (hn : n ≤ 64) : ∀ (k i : Nat), i ≤ n → n - i < k → CFn.run (P := Tryz.prog) qcD qwcopy_f k 1 (envL (qwS s ++ qwS s ++ [.int .i64 (i : Int)]) [gV n, tV n, bV p n, gV n, tV n, outB eP i]) = some (qwS s ++ qwS s, [gV n, tV n, bV p n, gV n, tV n, outB eP n]) := by
  intro k
  induction k with
  | zero => intro i _ h; omega
  | succ k ih =>
    intro i hi hk
    refine Eq.trans (CFn.step _ rfl) ?_
    refine Eq.trans (evK_es _ (lenR n (zB p)) rfl) ?_
    refine Eq.trans (evK_t (decide ((i : Int) < (n : Int))) rfl) ?_
    by_cases hlt : i < n
    · rw [decide_eq_true (by omega : (i : Int) < (n : Int)), cond_true]
      refine Eq.trans (evK_e (plR (zB p)) (elemR hlt (zB_len _) (by decide)) rfl) ?_
      refine Eq.trans (evK_l (zB p) zS [p] rfl rfl) ?_
      refine Eq.trans (evK_c zS [eP] rfl hp) ?_
      refine Eq.trans (evK_e (outB eP (i + 1)) (outB_app (by omega)) rfl) ?_
      refine Eq.trans (evK_d (.int .i64 ((i + 1 : Nat) : Int)) (inc_sev hlt (by omega))) ?_
      exact ih (i + 1) (by omega) (by omega)
    · have : i = n := by omega
      subst this
      rw [decide_eq_false (by omega), cond_false]
      rfl
theorem outB_bV {p : Value} {n : Nat} (h : 1 ≤ n) : outB p n = bV p n := by
  obtain ⟨m, rfl⟩ : ∃ m, n = m + 1 := ⟨n - 1, by omega⟩
  rfl
theorem qwcopy_cF (l k : List Value) : qwcopy_c.F l k = CFn.F (P := Tryz.prog) qcD qwcopy_f l k := by kernel_rfl
theorem qwcopy_F (s : Su) (p : Value) (hp : q5copy_c.F zS [p] = some (zS, [eP])) {n : Nat} (hm : s.m = (n : Int)) (h1 : 1 ≤ n) (hn : n ≤ 64) : qwcopy_c.F (qwS s) [gV n, tV n, bV p n] = some (qwS s ++ qwS s, [gV n, tV n, bV p n, gV n, tV n, bV eP n]) := by
  rw [qwcopy_cF]
  refine CFn.begin (n + 2) (by unfold manyK; omega) ?_
  refine Eq.trans (CFn.step _ rfl) ?_
  refine Eq.trans (evK_t false (Eq.trans (b := sev (.bin .eql) [.int .i64 (n : Int), .int .i64 0]) (by rw [← hm]; rfl) (eql_0 h1))) ?_
  rw [cond_false]
  refine Eq.trans (evK_e (gV n) (catR h1 hn rfl) rfl) ?_
  refine Eq.trans (evK_e (tV n) (catR h1 hn rfl) rfl) ?_
  rw [← outB_bV (p := eP) h1]
  exact qwcopy_1 s p hp n hn (n + 1) 0 (by omega) (by omega)
noncomputable abbrev qrD : List (Ctr Tryz.prog) := [qwcopy_c]
theorem qrcopy_cF (l k : List Value) : qrcopy_c.F l k = CFn.F (P := Tryz.prog) qrD qrcopy_f l k := by kernel_rfl
theorem qrcopy_F (s : Su) (p : Value) (hp : q5copy_c.F zS [p] = some (zS, [eP])) {n : Nat} (hm : s.m = (n : Int)) (h1 : 1 ≤ n) (hn : n ≤ 64) : qrcopy_c.F (qrS s) [gV n, tV n, bV p n] = some (qrS s ++ qrS s, [gV n, tV n, bV p n, gV n, tV n, bV eP n]) := by
  rw [qrcopy_cF]
  refine CFn.flat _ rfl ?_
  refine Eq.trans (evK_c _ _ rfl (qwcopy_F s p hp hm h1 hn)) ?_
  rfl
theorem qwall_1 (s : Su) (p : Value) (n : Nat) (hn : n ≤ 64) : ∀ (k i : Nat), i ≤ n → n - i < k → CFn.run (P := Tryz.prog) [] qwall_f k 1 (envL (qwS s ++ [.int .i64 (i : Int)]) [gV n, tV n, bV p n, nilV]) = some (qwS s, [gV n, tV n, bV p n, nilV]) := by
  intro k
  induction k with
  | zero => intro i _ h; omega
  | succ k ih =>
    intro i hi hk
    refine Eq.trans (CFn.step _ rfl) ?_
    refine Eq.trans (evK_es _ (lenR n [.bool false]) rfl) ?_
    refine Eq.trans (evK_t (decide ((i : Int) < (n : Int))) rfl) ?_
    by_cases hlt : i < n
    · rw [decide_eq_true (by omega : (i : Int) < (n : Int)), cond_true]
      refine Eq.trans (evK_e (plR [.bool false]) (elemR hlt rfl (by decide)) rfl) ?_
      refine Eq.trans (evK_l [.bool false] [.bool false] [] rfl rfl) ?_
      refine Eq.trans (evK_t false rfl) ?_
      rw [cond_false]
      refine Eq.trans (evK_d (.int .i64 ((i + 1 : Nat) : Int)) (inc_sev hlt (by omega))) ?_
      exact ih (i + 1) (by omega) (by omega)
    · have : i = n := by omega
      subst this
      rw [decide_eq_false (by omega), cond_false]
      rfl
theorem qwall_cF (l k : List Value) : qwall_c.F l k = CFn.F (P := Tryz.prog) [] qwall_f l k := by kernel_rfl
theorem qwall_F (s : Su) (p : Value) {n : Nat} (hm : s.m = (n : Int)) (h1 : 1 ≤ n) (hn : n ≤ 64) : qwall_c.F (qwS s) [gV n, tV n, bV p n] = some (qwS s, [gV n, tV n, bV p n, nilV]) := by
  rw [qwall_cF]
  refine CFn.begin (n + 2) (by unfold manyK; omega) ?_
  refine Eq.trans (CFn.step _ rfl) ?_
  refine Eq.trans (evK_t false (Eq.trans (b := sev (.bin .eql) [.int .i64 (n : Int), .int .i64 0]) (by rw [← hm]; rfl) (eql_0 h1))) ?_
  rw [cond_false]
  exact qwall_1 s p n hn (n + 1) 0 (by omega) (by omega)
noncomputable abbrev qkD : List (Ctr Tryz.prog) := [qwall_c]
theorem qrcount_cF (l k : List Value) : qrcount_c.F l k = CFn.F (P := Tryz.prog) qkD qrcount_f l k := by kernel_rfl
theorem qrcount_F (s : Su) (p : Value) {n : Nat} (hm : s.m = (n : Int)) (h1 : 1 ≤ n) (hn : n ≤ 64) : qrcount_c.F (qrS s) [gV n, tV n, bV p n] = some (qrS s ++ [i0], [gV n, tV n, bV p n]) := by
  rw [qrcount_cF]
  refine CFn.flat _ rfl ?_
  refine Eq.trans (evK_c _ _ rfl (qwall_F s p hm h1 hn)) ?_
  refine Eq.trans (evK_es i0 rfl rfl) ?_
  rfl
/-- New, of a setup that is valid -/
theorem snew_cF (l k : List Value) : snew_c.F l k = CFn.F (P := Tryz.prog) [sck_c, wck_c] snew_f l k := by kernel_rfl
theorem snew_F (s : Su) (hs : su64 s) (hc : ckSv s = 0) {n : Nat} (hm : s.m = (n : Int)) : snew_c.F (suL s) [] = some (sS s ++ [i0], [gV n, bV nilV n]) := by
  obtain ⟨hr, h1, hn⟩ := ck_num hc
  rw [snew_cF]
  refine CFn.flat _ rfl ?_
  refine Eq.trans (evK_c [.int .i64 (ckSv s)] [] rfl (sck_F s hs.1 hs.2.1 hs.2.2)) ?_
  refine Eq.trans (evK_t (ckSv s != 0) rfl) ?_
  rw [hc, show ((0 : Int) != 0) = false from rfl, cond_false]
  refine Eq.trans (evK_c [.int .i64 (ckRoom s)] [] rfl (wck_F s hs.1 hs.2.1 hs.2.2)) ?_
  refine Eq.trans (evK_t (ckRoom s != 0) rfl) ?_
  rw [hr, show ((0 : Int) != 0) = false from rfl, cond_false]
  refine Eq.trans (evK_t (decide (s.m < 1)) rfl) ?_
  rw [decide_eq_false (by omega), cond_false]
  refine Eq.trans (evK_t (decide (s.m > 64)) rfl) ?_
  rw [decide_eq_false (by omega), cond_false]
  refine Eq.trans (evK_t (decide (s.m ≤ 1048576)) rfl) ?_
  rw [decide_eq_true (by omega), cond_true]
  refine Eq.trans (evK_e (gV n) (Eq.trans (b := lsev .rep ([.int .i64 (n : Int)] ++ [i0])) (by rw [← hm]; rfl) (repR n [i0])) rfl) ?_
  refine Eq.trans (evK_e (bV nilV n) (Eq.trans (b := lsev .rep ([.int .i64 (n : Int)] ++ (zB nilV))) (by rw [← hm]; rfl) (repR n (zB nilV))) rfl) ?_
  rfl
theorem qnew_cF (l k : List Value) : qnew_c.F l k = CFn.F (P := Tryz.prog) [qck_c, rck_c] qnew_f l k := by kernel_rfl
theorem qnew_F (s : Su) (hc : ckSv s = 0) {n : Nat} (hm : s.m = (n : Int)) : qnew_c.F (suL s) [] = some (qS s ++ [i0], [gV n, tV n, bV nilV n]) := by
  obtain ⟨hr, h1, hn⟩ := ck_num hc
  rw [qnew_cF]
  refine CFn.flat _ rfl ?_
  refine Eq.trans (evK_c [.int .i64 (ckSv s)] [] rfl (qck_F s)) ?_
  refine Eq.trans (evK_t (ckSv s != 0) rfl) ?_
  rw [hc, show ((0 : Int) != 0) = false from rfl, cond_false]
  refine Eq.trans (evK_c [.int .i64 (ckRoom s)] [] rfl (rck_F s)) ?_
  refine Eq.trans (evK_t (ckRoom s != 0) rfl) ?_
  rw [hr, show ((0 : Int) != 0) = false from rfl, cond_false]
  refine Eq.trans (evK_t (decide (s.m ≤ 1048576)) rfl) ?_
  rw [decide_eq_true (by omega), cond_true]
  refine Eq.trans (evK_e (gV n) (Eq.trans (b := lsev .rep ([.int .i64 (n : Int)] ++ [i0])) (by rw [← hm]; rfl) (repR n [i0])) rfl) ?_
  refine Eq.trans (evK_e (tV n) (Eq.trans (b := lsev .rep ([.int .i64 (n : Int)] ++ [.bool false])) (by rw [← hm]; rfl) (repR n [.bool false])) rfl) ?_
  refine Eq.trans (evK_e (bV nilV n) (Eq.trans (b := lsev .rep ([.int .i64 (n : Int)] ++ (zB nilV))) (by rw [← hm]; rfl) (repR n (zB nilV))) rfl) ?_
  rfl
end Go.Proofs.YtkgfckenobmleaaGreat.U
