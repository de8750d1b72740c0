/- HistoryFragments: scripts cut into pieces, by both. -/
import Derived.Test.YtokaedcpmiklhaaGreatUO
set_option linter.unusedSimpArgs false
set_option linter.unusedVariables false
namespace Go.Proofs.YtokaedcpmiklhaaGreat.U
open Go Go.Eng
/-- a list of integers as a deep value -/
def IV (V : Value) (c : List Int) : Prop := lrows V = some (c.map fun n => [.int .i64 n])
/-- a list of ops as a deep value, its rows alone -/
def OV (V : Value) (l : List OpV) : Prop := lrows V = some (l.map opL)
/-- a list of ops that grows from nothing -/
def outV (l : List OpV) : Value := match l with
  | [] => .slice none 0 0
  | _ :: _ => Eng.lv (l.map opL)
theorem OV.out : ∀ l : List OpV, OV (outV l) l
  | [] => rfl
  | _ :: _ => lrows_lv _
theorem outV_app (l : List OpV) (o : OpV) : outV (l ++ [o]) = Eng.lv ((l ++ [o]).map opL) := by
  cases l <;> rfl
theorem IV.len {V : Value} {c : List Int} (h : IV V c) : lsev .len [V] = some (.int .i64 (c.length : Int)) := by
  have h' : lrows V = some (c.map fun n => [.int .i64 n]) := h
  simp only [lsev, h', Option.map_some, List.length_map]
  rfl
theorem OV.len {V : Value} {l : List OpV} (h : OV V l) : lsev .len [V] = some (.int .i64 (l.length : Int)) := by
  have h' : lrows V = some (l.map opL) := h
  simp only [lsev, h', Option.map_some, List.length_map]
  rfl
theorem int1_nat (i : Nat) : int1 (.int .i64 (i : Int)) = some i := by
  show (bif decide ((0 : Int) ≤ (i : Int)) then some ((i : Int).toNat) else none) = _
  rw [decide_eq_true (by omega), Int.toNat_natCast]
  rfl
def plI (n : Int) : Value := .iface 0 (.agg ⟨[.int .i64 n]⟩)
theorem IV.elem {V : Value} {c : List Int} (h : IV V c) {i : Nat} {n : Int} (hi : c[i]? = some n) : lsev (.iad 1) [V, .int .i64 (i : Int)] = some (plI n) := by
  have h' : lrows V = some (c.map fun n => [.int .i64 n]) := h
  have h2 : (c.map fun n => [Value.int .i64 n])[i]? = some [.int .i64 n] := by rw [List.getElem?_map, hi]; rfl
  simp only [lsev, h', int1_nat, h2]
  rfl
theorem app4 {l : List OpV} (hn : l.length + 4 ≤ 1048576) (o : OpV) : lsev (.app 4) (outV l :: opL o) = some (outV (l ++ [o])) := by
  have h1 : Nat.ble ((l.map opL).length + (opL o).length) 1048576 = true := by
    refine Nat.ble_eq_true_of_le ?_
    rw [List.length_map]
    exact hn
  have h2 : lrows (outV l) = some (l.map opL) := OV.out l
  have hl : (opL o).length = 4 := rfl
  have h5 : Nat.beq ((opL o).length % 4) 0 = true := by rw [hl]; rfl
  rw [outV_app]
  simp only [lsev, h2, h1, h5]
  rw [List.map_append]
  rfl
/-- the pieces of a text, and the place in the list of cuts -/
def pcs (c : List Int) (k s : Int) : Nat → Nat → List UInt8 → List OpV × Nat
  | 0, n, _ => ([], n)
  | f + 1, n, t => if t = [] then ([], n) else
    (⟨k, s, ⟨⟨t.take (min (c.getD (n % c.length) 0) (t.length : Int)).toNat⟩⟩, 0⟩ :: (pcs c k s f (n + 1) (t.drop (min (c.getD (n % c.length) 0) (t.length : Int)).toNat)).1, (pcs c k s f (n + 1) (t.drop (min (c.getD (n % c.length) 0) (t.length : Int)).toNat)).2)
theorem pcs_len (c : List Int) (k s : Int) : ∀ (f n : Nat) (t : List UInt8), (pcs c k s f n t).1.length ≤ f ∧ (pcs c k s f n t).2 ≤ n + f := by
  intro f
  induction f with
  | zero => intro n t; exact ⟨Nat.le_refl _, Nat.le_refl _⟩
  | succ f ih =>
    intro n t
    unfold pcs
    split
    · exact ⟨Nat.zero_le _, by simp⟩
    · have := ih (n + 1) (t.drop (min (c.getD (n % c.length) 0) (t.length : Int)).toNat)
      simp only [List.length_cons]
      omega
/-- what an op becomes -/
def frag1 (c : List Int) (n : Nat) (o : OpV) : List OpV × Nat := if c = [] ∨ o.b.data.toList = [] then ([o], n) else pcs c o.k o.s o.b.size n o.b.data.toList
def fragL (c : List Int) : Nat → List OpV → List OpV
  | _, [] => []
  | n, o :: r => (frag1 c n o).1 ++ fragL c (frag1 c n o).2 r
def fragN (c : List Int) : Nat → List OpV → Nat
  | n, [] => n
  | n, o :: r => fragN c (frag1 c n o).2 r
theorem frag1_len (c : List Int) (n : Nat) (o : OpV) : (frag1 c n o).1.length ≤ 1 + o.b.size ∧ (frag1 c n o).2 ≤ n + o.b.size := by
  unfold frag1
  split
  · simp
  · have := pcs_len c o.k o.s o.b.size n o.b.data.toList
    omega
def totB : List OpV → Nat
  | [] => 0
  | o :: r => o.b.size + totB r
theorem totB_take (l : List OpV) : ∀ i, i ≤ l.length → totAt l i + totB (l.drop i) = totB l := by
  intro i
  induction i with
  | zero => intro _; simp [totAt]
  | succ i ih =>
    intro hi
    have h1 := ih (by omega)
    rw [List.drop_eq_getElem_cons (by omega : i < l.length)] at h1
    have h2 := totAt_succ (getI (l := l) (i := i) (by omega))
    rw [h2]
    simp only [totB] at h1
    omega
theorem fragL_len (c : List Int) : ∀ (l : List OpV) (n : Nat), (fragL c n l).length ≤ l.length + totB l
  | [], n => by simp [fragL, totB]
  | o :: r, n => by
    have h1 := (frag1_len c n o).1
    have h2 := fragL_len c r (frag1 c n o).2
    simp only [fragL, List.length_append, List.length_cons, totB]
    omega
/-- what may stand for a setup that nobody looks at -/
def zeroL : List Value := [.int .i64 0, .bool false, .int .i64 0, .bool false, .int .i64 0, .bool false, .int .i64 0, .int .i64 0, .int .i64 0, .int .i64 0, .int .i64 0]
noncomputable abbrev hfD : List (Ctr Tryz.prog) := [hchk_c, contf_c]
noncomputable abbrev rfD : List (Ctr Tryz.prog) := [rchk_c]
theorem rem_sev {n m : Nat} (h : 0 < m) : sev (.bin .rem) [.int .i64 (n : Int), .int .i64 (m : Int)] = some (.int .i64 ((n % m : Nat) : Int)) := by
  show pureSem (Op.intDiv .rem .i64 (n : Int) (m : Int)) = _
  unfold Op.intDiv
  rw [if_neg (by omega)]
  show some (Value.int .i64 ((n : Int).tmod (m : Int))) = _
  rw [Int.tmod_eq_emod_of_nonneg (by omega)]
  rfl
theorem min_sev (a b : Int) : sev (.mm false) [.int .i64 a, .int .i64 b] = some (.int .i64 (min a b)) := by
  show some (Value.int .i64 (bif false then _ else (if b < a then b else a))) = _
  rw [cond_false, Int.min_def]
  congr 2
  split <;> split <;> omega
theorem sub_to (t : List UInt8) (m : Nat) (h : m ≤ t.length) : sev (.ssub false true) [.string ⟨⟨t⟩⟩, .int .i64 0, .int .i64 (m : Int)] = some (.string ⟨⟨t.take m⟩⟩) := by
  show (bif decide ((0 : Int) ≤ 0) && decide ((0 : Int) ≤ (m : Int)) && decide ((m : Int) ≤ (t.length : Int)) then some (Value.string ⟨⟨(t.drop (0 : Int).toNat).take ((m : Int).toNat - (0 : Int).toNat)⟩⟩) else none) = _
  rw [decide_eq_true (by omega), decide_eq_true (by omega), decide_eq_true (by omega)]
  simp
theorem sub_from (t : List UInt8) (m : Nat) (h : m ≤ t.length) : sev (.ssub true false) [.string ⟨⟨t⟩⟩, .int .i64 (m : Int), .int .i64 0] = some (.string ⟨⟨t.drop m⟩⟩) := by
  show (bif decide ((0 : Int) ≤ (m : Int)) && decide ((m : Int) ≤ (t.length : Int)) && decide ((t.length : Int) ≤ (t.length : Int)) then some (Value.string ⟨⟨(t.drop (m : Int).toNat).take ((t.length : Int).toNat - (m : Int).toNat)⟩⟩) else none) = _
  rw [decide_eq_true (by omega), decide_eq_true (by omega), decide_eq_true (by omega)]
  simp only [Bool.and_self, cond_true, Int.toNat_natCast]
  rw [List.take_of_length_le (by rw [List.length_drop]; omega)]
theorem ne_sev (t : List UInt8) : sev (.bin .neq) [.string ⟨⟨t⟩⟩, .string ⟨⟨[]⟩⟩] = some (.bool (!(t == []))) := rfl
theorem eq_sev (t : ByteArray) : sev (.bin .eql) [.string t, .string ⟨⟨[]⟩⟩] = some (.bool (t.data.toList == [])) := rfl
/-- the state at hfrag's second loop -/
def hf2 (s : Su) (n len i : Nat) (o : OpV) (t : ByteArray) (cl : Int) : List Value :=
  zeroL ++ suL s ++ [.int .i64 (n : Int)] ++ opL o ++ [.string t, .int .i64 (len : Int), .int .i64 (i : Int), .bool true] ++ opL o ++ [.string o.b, .int .i64 cl, .bool false, .bool false, .string o.b, .bool false, .bool false]
def hf1 (s : Su) (n len i : Nat) : List Value := zeroL ++ suL s ++ [.int .i64 (n : Int), .int .i64 (len : Int), .int .i64 (i : Int)]
set_option maxHeartbeats 2000000 in
theorem hfrag_2 (s : Su) {VO VC VP VC2 : Value} {c : List Int} (hC : IV VC c) (h0 : c ≠ []) (hc : ∀ x ∈ c, 1 ≤ x) (hcl : c.length ≤ 9223372036854775807) (len i k : Nat) (hil : i < len) (hlen : len ≤ 9223372036854775807) (o : OpV) (cl : Int) (rs : List Value × List Value) : ∀ (f n : Nat) (t : List UInt8) (out : List OpV), t.length ≤ f → n + f ≤ 1000000 → out.length + f ≤ 1000000 →
    runT hfD hfrag_f k 1 (hf1 s (pcs c o.k o.s f n t).2 len (i + 1)) [VC, outV (out ++ (pcs c o.k o.s f n t).1), VO] = some rs → runT hfD hfrag_f (k + f + 1) 2 (hf2 s n len i o ⟨⟨t⟩⟩ cl) [VC, outV out, VO, VP, VC2] = some rs := by
  intro f
  induction f with
  | zero =>
    intro n t out ht hn ho h
    have : t = [] := List.length_eq_zero_iff.1 (by omega)
    subst this
    refine Eq.trans (CFn.step _ rfl) ?_
    refine Eq.trans (evK_t false rfl) ?_
    rw [cond_false]
    refine Eq.trans (evK_d (.int .i64 ((i + 1 : Nat) : Int)) (inc_sev hil hlen)) ?_
    have e0 : pcs c o.k o.s 0 n [] = ([], n) := rfl
    rw [e0] at h
    simp only [List.append_nil] at h
    exact h
  | succ f ih =>
    intro n t out ht hn ho h
    refine Eq.trans (CFn.step _ rfl) ?_
    refine Eq.trans (evK_t (!(t == [])) (ne_sev t)) ?_
    by_cases he : t = []
    · subst he
      rw [show (!(([] : List UInt8) == [])) = false from rfl, cond_false]
      refine Eq.trans (evK_d (.int .i64 ((i + 1 : Nat) : Int)) (inc_sev hil hlen)) ?_
      refine CFn.run_mono (k := k) (by omega) ?_
      have e0 : pcs c o.k o.s (f + 1) n [] = ([], n) := by
        unfold pcs
        rw [if_pos rfl]
      rw [e0] at h
      simp only [List.append_nil] at h
      exact h
    · have hb : (!(t == [])) = true := by
        cases t with
        | nil => exact absurd rfl he
        | cons => rfl
      rw [hb, cond_true]
      have hp : 0 < c.length := List.length_pos_iff.2 h0
      have hm : n % c.length < c.length := Nat.mod_lt _ hp
      have hx : c.getD (n % c.length) 0 = c[n % c.length] := by rw [List.getD_eq_getElem?_getD, List.getElem?_eq_getElem hm]; rfl
      have hx1 := hc c[n % c.length] (List.getElem_mem hm)
      have ht0 : 0 < t.length := List.length_pos_iff.2 he
      have hmin : min (c.getD (n % c.length) 0) (t.length : Int) = (((min (c.getD (n % c.length) 0) (t.length : Int)).toNat : Nat) : Int) := by omega
      generalize hq : (min (c.getD (n % c.length) 0) (t.length : Int)).toNat = q at *
      have hq1 : 1 ≤ q ∧ q ≤ t.length := by omega
      have h4 : lsev (.app 4) [outV out, .int .i64 o.k, .int .i64 o.s, .string ⟨⟨t.take q⟩⟩, .int .i64 0] = some (outV (out ++ [OpV.mk o.k o.s ⟨⟨t.take q⟩⟩ 0])) := app4 (l := out) (by omega) ⟨o.k, o.s, ⟨⟨t.take q⟩⟩, 0⟩
      refine Eq.trans (evK_es (.int .i64 (c.length : Int)) hC.len rfl) ?_
      refine Eq.trans (evK_d (.int .i64 ((n % c.length : Nat) : Int)) (rem_sev hp)) ?_
      refine Eq.trans (evK_e (plI c[n % c.length]) (hC.elem (List.getElem?_eq_getElem hm)) rfl) ?_
      refine Eq.trans (evK_l [.int .i64 c[n % c.length]] [.int .i64 c[n % c.length]] [] rfl rfl) ?_
      refine Eq.trans (evK_d (.int .i64 (t.length : Int)) rfl) ?_
      refine Eq.trans (evK_d (.int .i64 (q : Int)) (Eq.trans (min_sev _ _) (by rw [← hx, hmin]))) ?_
      refine Eq.trans (evK_d (.int .i64 ((n + 1 : Nat) : Int)) (inc_sev (n := n + 1) (by omega) (by omega))) ?_
      refine Eq.trans (evK_d (.string ⟨⟨t.take q⟩⟩) (sub_to t q hq1.2)) ?_
      refine Eq.trans (evK_e (outV (out ++ [OpV.mk o.k o.s ⟨⟨t.take q⟩⟩ 0])) h4 rfl) ?_
      refine Eq.trans (evK_d (.string ⟨⟨t.drop q⟩⟩) (sub_from t q hq1.2)) ?_
      refine ih (n + 1) (t.drop q) (out ++ [OpV.mk o.k o.s ⟨⟨t.take q⟩⟩ 0]) (by rw [List.length_drop]; omega) (by omega) (by rw [List.length_append]; simp; omega) ?_
      have e : pcs c o.k o.s (f + 1) n t = (⟨o.k, o.s, ⟨⟨t.take q⟩⟩, 0⟩ :: (pcs c o.k o.s f (n + 1) (t.drop q)).1, (pcs c o.k o.s f (n + 1) (t.drop q)).2) := by
        conv => lhs; unfold pcs
        rw [if_neg he, hq]
      rw [e] at h
      simpa only [List.append_assoc, List.cons_append, List.nil_append] using h
end Go.Proofs.YtokaedcpmiklhaaGreat.U
