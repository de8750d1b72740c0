/- HistoryBack: the scene: a script that is valid, and short. -/
import Derived.Test.YtfcjlgdpdomoeaaGreatVD
set_option linter.unusedSimpArgs false
set_option linter.unusedVariables false
namespace Go.Proofs.YtfcjlgdpdomoeaaGreat.U
open Go Go.Eng
set_option maxRecDepth 100000 in
theorem lframe_g : oneS (lframe_A.g [.i .i64 0 1073741823]) 1000 = true := by kernel_rfl
theorem lframe_S {n : Int} (h : 0 ≤ n ∧ n ≤ 1073741823) : ∃ b : ByteArray, lframe_c.F [.int .i64 n] noL = some ([.string b], noL) ∧ b.size ≤ 1000 := by
  obtain ⟨m, e, hm⟩ := oneS_ok lframe_g
  obtain ⟨ws, h1, h2⟩ := lframe_A.ok _ _ [.int .i64 n] e ⟨⟨rfl, h.1, h.2⟩, trivial⟩
  obtain ⟨w, rfl, hw⟩ := hasL_1 h2
  obtain ⟨t, rfl, ht⟩ := has_s hw
  exact ⟨t, h1, Nat.le_trans ht hm⟩
theorem ssetup_g : ssetup_A.g [.i .i64 (-9223372036854775808) 9223372036854775807, .i .i64 1 65536] = some [.i .i64 0 0, .b (some false), .i .i64 (-34359738368) 0, .b (some false), .i .i64 67108864 67108864, .b (some false), .i .i64 1 6, .i .i64 1 4, .i .i64 1 4, .i .i64 1 8, .i .i64 1 65536] := by kernel_rfl
/-- a setup that is valid -/
def suS (s : Su) : Prop := s.fx = false ∧ s.fy = false ∧ s.fd = false ∧ s.x = 0 ∧ (-34359738368 ≤ s.y ∧ s.y ≤ 0) ∧ s.d = 67108864 ∧ (1 ≤ s.m ∧ s.m ≤ 6) ∧ (1 ≤ s.r ∧ s.r ≤ 4) ∧ (1 ≤ s.ns ∧ s.ns ≤ 4) ∧ (1 ≤ s.nt ∧ s.nt ≤ 8) ∧ (1 ≤ s.nq ∧ s.nq ≤ 65536)
theorem ssetup_S {a q : Int} (ha : i64R a) (hq : 1 ≤ q ∧ q ≤ 65536) : ∃ s : Su, ssetup_c.F [.int .i64 a, .int .i64 q] noL = some (suL s, noL) ∧ suS s := by
  obtain ⟨ws, h1, h2⟩ := ssetup_A.ok _ _ [.int .i64 a, .int .i64 q] ssetup_g ⟨⟨rfl, ha.1, ha.2⟩, ⟨rfl, hq.1, hq.2⟩, trivial⟩
  match ws, h2 with
  | [w0, w1, w2, w3, w4, w5, w6, w7, w8, w9, w10], ⟨g0, g1, g2, g3, g4, g5, g6, g7, g8, g9, g10, _⟩ =>
    obtain ⟨x, rfl, hx⟩ := has_i g0
    obtain ⟨fx, rfl, hfx⟩ := has_b g1
    obtain ⟨y, rfl, hy⟩ := has_i g2
    obtain ⟨fy, rfl, hfy⟩ := has_b g3
    obtain ⟨d, rfl, hd⟩ := has_i g4
    obtain ⟨fd, rfl, hfd⟩ := has_b g5
    obtain ⟨m, rfl, hm⟩ := has_i g6
    obtain ⟨r, rfl, hr⟩ := has_i g7
    obtain ⟨ns, rfl, hns⟩ := has_i g8
    obtain ⟨nt, rfl, hnt⟩ := has_i g9
    obtain ⟨nq, rfl, hnq⟩ := has_i g10
    exact ⟨⟨x, y, d, m, r, ns, nt, nq, fx, fy, fd⟩, h1, hfx _ rfl, hfy _ rfl, hfd _ rfl, by show x = 0; omega, hy, by show d = 67108864; omega, hm, hr, hns, hnt, hnq⟩
theorem suS_ck {s : Su} (h : suS s) : ckSv s = 0 := by
  obtain ⟨h1, h2, h3, h4, h5, h6, h7, h8, h9, h10, h11⟩ := h
  have hr : ckRoom s = 0 := by
    unfold ckRoom ckS
    rw [if_pos]
    refine ⟨h1, h2, h3, ?_⟩
    omega
  unfold ckSv
  rw [hr, if_pos rfl, if_neg]
  omega
theorem suS_64 {s : Su} (h : suS s) : su64 s := by
  obtain ⟨h1, h2, h3, h4, h5, h6, h7, h8, h9, h10, h11⟩ := h
  refine ⟨?_, ?_, ?_⟩ <;> (unfold i64R; omega)
theorem suS_F {s : Su} (h : suS s) : suF s := by
  obtain ⟨h1, h2, h3, h4, h5, h6, h7, h8, h9, h10, h11⟩ := h
  constructor <;> omega
/-- ops that are valid, and short -/
def OpG (o : OpV) : Prop := opE o.k o.s o.b o.n = 0 ∧ o.b.size ≤ 1000
theorem rem_sevI {a m : Int} (ha : 0 ≤ a) (hm : 0 < m) : sev (.bin .rem) [.int .i64 a, .int .i64 m] = some (.int .i64 (a % m)) := by
  show pureSem (Op.intDiv .rem .i64 a m) = _
  unfold Op.intDiv
  rw [if_neg (by omega)]
  show some (Value.int .i64 (a.tmod m)) = _
  rw [Int.tmod_eq_emod_of_nonneg ha]
theorem quo_sevI {a m : Int} (ha : 0 ≤ a) (hb : a ≤ 9223372036854775807) (hm : 0 < m) : sev (.bin .quo) [.int .i64 a, .int .i64 m] = some (.int .i64 (a / m)) := by
  show pureSem (Op.intDiv .quo .i64 a m) = _
  unfold Op.intDiv
  rw [if_neg (by omega)]
  show some (Value.int .i64 (IntKind.i64.wrap (a.tdiv m))) = _
  rw [Int.tdiv_eq_ediv_of_nonneg ha]
  have h1 := Int.ediv_nonneg ha (Int.le_of_lt hm)
  have h2 := Int.ediv_le_self m ha
  rw [wrap_in (by unfold i64R; omega)]
theorem mod_cF (l k : List Value) : mod_c.F l k = CFn.F (P := Tryz.prog) [] mod_f l k := rfl
theorem mod_S {a m : Int} (ha : i64R a) (hm : 0 < m ∧ m ≤ 9223372036854775807) : ∃ r : Int, mod_c.F [.int .i64 a, .int .i64 m] noL = some ([.int .i64 r], noL) ∧ 0 ≤ r ∧ r < m := by
  have hpos : ∀ z : Int, 0 ≤ z → 0 ≤ z.tmod m ∧ z.tmod m < m := by
    intro z hz
    rw [Int.tmod_eq_emod_of_nonneg hz]
    exact ⟨Int.emod_nonneg _ (by omega), Int.emod_lt_of_pos _ (by omega)⟩
  have hb : -m < a.tmod m ∧ a.tmod m < m := by
    rcases Int.le_total 0 a with h | h
    · have := hpos a h
      omega
    · have := hpos (-a) (by omega)
      rw [Int.neg_tmod] at this
      omega
  have e1 : sev (.bin .rem) [.int .i64 a, .int .i64 m] = some (.int .i64 (a.tmod m)) := by
    show pureSem (Op.intDiv .rem .i64 a m) = _
    unfold Op.intDiv
    rw [if_neg (by omega)]
    rfl
  generalize a.tmod m = z at *
  rw [mod_cF]
  by_cases hz : z < 0
  · refine ⟨z + m, ?_, by omega, by omega⟩
    refine CFn.flat _ rfl ?_
    refine Eq.trans (evK_d _ e1) ?_
    refine Eq.trans (evK_t (decide (z < 0)) rfl) ?_
    rw [decide_eq_true hz, cond_true]
    refine Eq.trans (evK_d (.int .i64 (z + m)) (by
      show some (Value.int .i64 (IntKind.i64.wrap (z + m))) = _
      rw [wrap_in (by unfold i64R; omega)])) ?_
    rfl
  · refine ⟨z, ?_, by omega, by omega⟩
    refine CFn.flat _ rfl ?_
    refine Eq.trans (evK_d _ e1) ?_
    refine Eq.trans (evK_t (decide (z < 0)) rfl) ?_
    rw [decide_eq_false hz, cond_false]
    rfl
noncomputable abbrev scD : List (Ctr Tryz.prog) := [ssetup_c, mod_c, lframe_c]
theorem opE_1 (k s n : Int) (b : ByteArray) (h : (k = 1 ∨ k = 5) ∧ s = 0 ∧ n = 0 ∧ b.data.toList = [] ∨ k = 2 ∧ (1 ≤ s ∧ s ≤ 16) ∧ n = 0 ∧ b.data.toList = [] ∨ k = 3 ∧ (1 ≤ s ∧ s ≤ 16) ∧ n = 0 ∨ k = 4 ∧ (1 ≤ s ∧ s ≤ 16) ∧ (0 ≤ n ∧ n ≤ 65536) ∧ b.data.toList = []) : opE k s b n = 0 := by
  unfold opE
  generalize b.data.toList = l at *
  rw [if_neg (by omega), if_neg (by omega)]
  rw [if_neg (show ¬ (k ≠ 3 ∧ ¬ l = []) from fun ⟨h1, h2⟩ => by
    rcases h with h | h | h | h
    · exact h2 h.2.2.2
    · exact h2 h.2.2.2
    · exact h1 h.1
    · exact h2 h.2.2.2)]
  rw [if_neg (by omega), if_neg (by omega), if_neg (by omega)]
def eB : ByteArray := ⟨⟨[]⟩⟩
abbrev scS (s : Su) (i : Nat) : List Value := zeroL ++ suL s ++ [.int .i64 (i : Int)]
theorem scene_1 (s : Su) (hs : suS s) {V : Value} {rs : List Value × List Value} (k : Nat) : ∀ (m i : Nat) (acc : List OpV), ((i : Int) + m = s.ns) → acc.length = i → (∀ o ∈ acc, OpG o) →
    (∀ acc' : List OpV, acc'.length ≤ 4 → (∀ o ∈ acc', OpG o) → ∃ l, runT scD scene_f k 2 (scS s 0) [V, outV acc'] = some (suL s, [outV l]) ∧ l.length ≤ 34 ∧ ∀ o ∈ l, OpG o) →
    ∃ l, runT scD scene_f (k + m + 1) 1 (scS s i) [V, outV acc] = some (suL s, [outV l]) ∧ l.length ≤ 34 ∧ ∀ o ∈ l, OpG o := by
  have hns : s.ns ≤ 4 := hs.2.2.2.2.2.2.2.2.1.2
  intro m
  induction m with
  | zero =>
    intro i acc hi ha hg h
    obtain ⟨l, e, hl⟩ := h acc (by omega) hg
    refine ⟨l, ?_, hl⟩
    refine Eq.trans (CFn.step _ rfl) ?_
    refine Eq.trans (evK_t (decide ((i : Int) < s.ns)) rfl) ?_
    rw [decide_eq_false (by omega), cond_false]
    exact e
  | succ m ih =>
    intro i acc hi ha hg h
    obtain ⟨l, e, hl⟩ := ih (i + 1) (acc ++ [OpV.mk 1 0 eB 0]) (by omega) (by rw [List.length_append, ha]; rfl) (fun o ho => by
      rcases List.mem_append.1 ho with ho | ho
      · exact hg o ho
      · obtain rfl := List.mem_singleton.1 ho
        exact ⟨opE_1 _ _ _ _ (by left; exact ⟨.inl rfl, rfl, rfl, rfl⟩), Nat.zero_le _⟩) h
    refine ⟨l, ?_, hl⟩
    refine Eq.trans (CFn.step _ rfl) ?_
    refine Eq.trans (evK_t (decide ((i : Int) < s.ns)) rfl) ?_
    rw [decide_eq_true (by omega), cond_true]
    refine Eq.trans (evK_e _ (app4 (l := acc) (by omega) (OpV.mk 1 0 eB 0)) rfl) ?_
    refine Eq.trans (evK_d (.int .i64 ((i + 1 : Nat) : Int)) (inc_sev (n := i + 1) (by omega) (by omega))) ?_
    exact e
theorem eqi_sev (a b : Int) : sev (.bin .eql) [.int .i64 a, .int .i64 b] = some (.bool (decide (a = b))) := rfl
set_option maxHeartbeats 2000000 in
theorem scene_2 (s : Su) (hs : suS s) {V : Value} {c : List Int} (hC : IV V c) (hc : c.length ≤ 30) (hc64 : ∀ x ∈ c, i64R x) : ∀ (m k i : Nat) (acc : List OpV), i + m = c.length → acc.length ≤ 4 + i → (∀ o ∈ acc, OpG o) → m < k →
    ∃ l, runT scD scene_f k 2 (scS s i) [V, outV acc] = some (suL s, [outV l]) ∧ l.length ≤ 34 ∧ ∀ o ∈ l, OpG o := by
  have hns : 1 ≤ s.ns ∧ s.ns ≤ 4 := hs.2.2.2.2.2.2.2.2.1
  intro m
  induction m with
  | zero =>
    intro k i acc hi ha hg hk
    obtain ⟨k, rfl⟩ : ∃ j, k = j + 1 := ⟨k - 1, by omega⟩
    refine ⟨acc, ?_, by omega, hg⟩
    refine Eq.trans (CFn.step _ rfl) ?_
    refine Eq.trans (evK_es _ hC.len rfl) ?_
    refine Eq.trans (evK_t (decide ((i : Int) < (c.length : Int))) rfl) ?_
    rw [decide_eq_false (by omega), cond_false]
    rfl
  | succ m ih =>
    intro k i acc hi ha hg hk
    obtain ⟨k, rfl⟩ : ∃ j, k = j + 1 := ⟨k - 1, by omega⟩
    have hlt : i < c.length := by omega
    have hx : c[i]? = some c[i] := List.getElem?_eq_getElem hlt
    have hx64 : i64R c[i] := hc64 _ (List.getElem_mem hlt)
    generalize c[i] = x at hx hx64
    obtain ⟨n, en, hn0, hn1⟩ := mod_S hx64 (m := 1073741824) (by omega)
    have hse := Int.emod_nonneg n (show s.ns ≠ 0 by omega)
    have hse2 := Int.emod_lt_of_pos n (show 0 < s.ns by omega)
    have next : ∀ o : OpV, OpG o → ∃ l, runT scD scene_f k 2 (scS s (i + 1)) [V, outV (acc ++ [o])] = some (suL s, [outV l]) ∧ l.length ≤ 34 ∧ ∀ o ∈ l, OpG o := by
      intro o ho
      refine ih k (i + 1) (acc ++ [o]) (by omega) (by rw [List.length_append, List.length_singleton]; omega) (fun y hy => ?_) (by omega)
      rcases List.mem_append.1 hy with hy | hy
      · exact hg y hy
      · obtain rfl := List.mem_singleton.1 hy
        exact ho
    have inc : sev (.bin .add) [.int .i64 (i : Int), .int .i64 1] = some (.int .i64 ((i + 1 : Nat) : Int)) := inc_sev (n := i + 1) (by omega) (by omega)
    have hse3 : sev (.bin .add) [.int .i64 1, .int .i64 (n % s.ns)] = some (.int .i64 (1 + n % s.ns)) := by
      show some (Value.int .i64 (IntKind.i64.wrap (1 + n % s.ns))) = _
      rw [wrap_in (by unfold i64R; omega)]
    have hq0 := Int.ediv_nonneg hn0 (show (0 : Int) ≤ 12 by omega)
    have hq1 : n / 12 ≤ n := Int.ediv_le_self 12 hn0
    -- up to the kind
    have pre : ∀ {z : Option (List Value × List Value)}, evK scD (CFn.K scD scene_f k) (match scene_T2 with | .e _ _ (.t _ _ (.e _ _ (.l _ _ (.c _ _ (.d _ _ (.d _ _ (.d _ _ b)))))) _) => b | _ => .x) 29 3 ⟨upd (upd (upd (updL (updL (upd (envL (scS s i) [V, outV acc]).s 23 (.int .i64 (c.length : Int))) 24 [.int .i64 x]) 25 [.int .i64 n]) 26 (.int .i64 (n % s.ns))) 27 (.int .i64 (1 + n % s.ns))) 28 (.int .i64 (n % 12)), updL (updL (upd (envL (scS s i) [V, outV acc]).l 2 (plI x)) 3 noL) 3 noL⟩ = z → runT scD scene_f (k + 1) 2 (scS s i) [V, outV acc] = z := by
      intro z hz
      refine Eq.trans (CFn.step _ rfl) ?_
      refine Eq.trans (evK_es _ hC.len rfl) ?_
      refine Eq.trans (evK_t (decide ((i : Int) < (c.length : Int))) rfl) ?_
      rw [decide_eq_true (by omega), cond_true]
      refine Eq.trans (evK_e (plI x) (hC.elem hx) rfl) ?_
      refine Eq.trans (evK_l [.int .i64 x] [.int .i64 x] [] rfl rfl) ?_
      refine Eq.trans (evK_c [.int .i64 n] [] rfl en) ?_
      refine Eq.trans (evK_d _ (rem_sevI (m := s.ns) hn0 (by omega))) ?_
      refine Eq.trans (evK_d _ hse3) ?_
      refine Eq.trans (evK_d _ (rem_sevI (m := 12) hn0 (by omega))) ?_
      exact hz
    have g1 : ∀ k' : Int, k' = 1 ∨ k' = 5 → OpG (OpV.mk k' 0 eB 0) := fun k' h => ⟨opE_1 _ _ _ _ (by left; exact ⟨h, rfl, rfl, rfl⟩), Nat.zero_le _⟩
    have g2 : OpG (OpV.mk 2 (1 + n % s.ns) eB 0) := ⟨opE_1 _ _ _ _ (by right; left; exact ⟨rfl, ⟨by show 1 ≤ 1 + n % s.ns; omega, by show 1 + n % s.ns ≤ 16; omega⟩, rfl, rfl⟩), Nat.zero_le _⟩
    have hd0 := Int.emod_nonneg (n / 12) (show (60 : Int) ≠ 0 by omega)
    have hd1 := Int.emod_lt_of_pos (n / 12) (show (0 : Int) < 60 by omega)
    have g4 : OpG (OpV.mk 4 (1 + n % s.ns) eB (n / 12 % 60)) := ⟨opE_1 _ _ _ _ (by right; right; right; exact ⟨rfl, ⟨by show 1 ≤ 1 + n % s.ns; omega, by show 1 + n % s.ns ≤ 16; omega⟩, ⟨by show 0 ≤ n / 12 % 60; omega, by show n / 12 % 60 ≤ 65536; omega⟩, rfl⟩), Nat.zero_le _⟩
    obtain ⟨fb, efb, hfb⟩ := lframe_S (n := n) (by omega)
    have g3 : OpG (OpV.mk 3 (1 + n % s.ns) fb 0) := ⟨opE_1 _ _ _ _ (by right; right; left; exact ⟨rfl, ⟨by show 1 ≤ 1 + n % s.ns; omega, by show 1 + n % s.ns ≤ 16; omega⟩, rfl⟩), hfb⟩
    have ap : ∀ o : OpV, lsev (.app 4) (outV acc :: opL o) = some (outV (acc ++ [o])) := fun o => app4 (l := acc) (by omega) o
    by_cases k0 : n % 12 = 0
    · obtain ⟨l, e, hl⟩ := next _ (g1 5 (.inr rfl))
      refine ⟨l, pre ?_, hl⟩
      refine Eq.trans (evK_t _ (eqi_sev (n % 12) 0)) ?_
      rw [decide_eq_true k0, cond_true]
      refine Eq.trans (evK_e _ (ap (OpV.mk 5 0 eB 0)) rfl) ?_
      refine Eq.trans (evK_d _ inc) ?_
      exact e
    by_cases k1 : n % 12 = 1
    · obtain ⟨l, e, hl⟩ := next _ (g1 5 (.inr rfl))
      refine ⟨l, pre ?_, hl⟩
      refine Eq.trans (evK_t _ (eqi_sev (n % 12) 0)) ?_
      rw [decide_eq_false k0, cond_false]
      refine Eq.trans (evK_t _ (eqi_sev (n % 12) 1)) ?_
      rw [decide_eq_true k1, cond_true]
      refine Eq.trans (evK_e _ (ap (OpV.mk 5 0 eB 0)) rfl) ?_
      refine Eq.trans (evK_d _ inc) ?_
      exact e
    by_cases k2 : n % 12 = 2
    · obtain ⟨l, e, hl⟩ := next _ (g1 5 (.inr rfl))
      refine ⟨l, pre ?_, hl⟩
      refine Eq.trans (evK_t _ (eqi_sev (n % 12) 0)) ?_
      rw [decide_eq_false k0, cond_false]
      refine Eq.trans (evK_t _ (eqi_sev (n % 12) 1)) ?_
      rw [decide_eq_false k1, cond_false]
      refine Eq.trans (evK_t _ (eqi_sev (n % 12) 2)) ?_
      rw [decide_eq_true k2, cond_true]
      refine Eq.trans (evK_e _ (ap (OpV.mk 5 0 eB 0)) rfl) ?_
      refine Eq.trans (evK_d _ inc) ?_
      exact e
    by_cases k3 : n % 12 = 3
    · obtain ⟨l, e, hl⟩ := next _ g4
      refine ⟨l, pre ?_, hl⟩
      refine Eq.trans (evK_t _ (eqi_sev (n % 12) 0)) ?_
      rw [decide_eq_false k0, cond_false]
      refine Eq.trans (evK_t _ (eqi_sev (n % 12) 1)) ?_
      rw [decide_eq_false k1, cond_false]
      refine Eq.trans (evK_t _ (eqi_sev (n % 12) 2)) ?_
      rw [decide_eq_false k2, cond_false]
      refine Eq.trans (evK_t _ (eqi_sev (n % 12) 3)) ?_
      rw [decide_eq_true k3, cond_true]
      refine Eq.trans (evK_d _ (quo_sevI (m := 12) hn0 (by omega) (by omega))) ?_
      refine Eq.trans (evK_d _ (rem_sevI (m := 60) hq0 (by omega))) ?_
      refine Eq.trans (evK_e _ (ap (OpV.mk 4 (1 + n % s.ns) eB (n / 12 % 60))) rfl) ?_
      refine Eq.trans (evK_d _ inc) ?_
      exact e
    by_cases k4 : n % 12 = 4
    · obtain ⟨l, e, hl⟩ := next _ g4
      refine ⟨l, pre ?_, hl⟩
      refine Eq.trans (evK_t _ (eqi_sev (n % 12) 0)) ?_
      rw [decide_eq_false k0, cond_false]
      refine Eq.trans (evK_t _ (eqi_sev (n % 12) 1)) ?_
      rw [decide_eq_false k1, cond_false]
      refine Eq.trans (evK_t _ (eqi_sev (n % 12) 2)) ?_
      rw [decide_eq_false k2, cond_false]
      refine Eq.trans (evK_t _ (eqi_sev (n % 12) 3)) ?_
      rw [decide_eq_false k3, cond_false]
      refine Eq.trans (evK_t _ (eqi_sev (n % 12) 4)) ?_
      rw [decide_eq_true k4, cond_true]
      refine Eq.trans (evK_d _ (quo_sevI (m := 12) hn0 (by omega) (by omega))) ?_
      refine Eq.trans (evK_d _ (rem_sevI (m := 60) hq0 (by omega))) ?_
      refine Eq.trans (evK_e _ (ap (OpV.mk 4 (1 + n % s.ns) eB (n / 12 % 60))) rfl) ?_
      refine Eq.trans (evK_d _ inc) ?_
      exact e
    by_cases k5 : n % 12 = 5
    · by_cases k6 : n / 12 % 3 > 0
      · obtain ⟨l, e, hl⟩ := next _ (g1 1 (.inl rfl))
        refine ⟨l, pre ?_, hl⟩
        refine Eq.trans (evK_t _ (eqi_sev (n % 12) 0)) ?_
        rw [decide_eq_false k0, cond_false]
        refine Eq.trans (evK_t _ (eqi_sev (n % 12) 1)) ?_
        rw [decide_eq_false k1, cond_false]
        refine Eq.trans (evK_t _ (eqi_sev (n % 12) 2)) ?_
        rw [decide_eq_false k2, cond_false]
        refine Eq.trans (evK_t _ (eqi_sev (n % 12) 3)) ?_
        rw [decide_eq_false k3, cond_false]
        refine Eq.trans (evK_t _ (eqi_sev (n % 12) 4)) ?_
        rw [decide_eq_false k4, cond_false]
        refine Eq.trans (evK_t _ (eqi_sev (n % 12) 5)) ?_
        rw [decide_eq_true k5, cond_true]
        refine Eq.trans (evK_d _ (quo_sevI (m := 12) hn0 (by omega) (by omega))) ?_
        refine Eq.trans (evK_d _ (rem_sevI (m := 3) hq0 (by omega))) ?_
        refine Eq.trans (evK_t (decide (n / 12 % 3 > 0)) rfl) ?_
        rw [decide_eq_true k6, cond_true]
        refine Eq.trans (evK_e _ (ap (OpV.mk 1 0 eB 0)) rfl) ?_
        refine Eq.trans (evK_d _ inc) ?_
        exact e
      · obtain ⟨l, e, hl⟩ := next _ g2
        refine ⟨l, pre ?_, hl⟩
        refine Eq.trans (evK_t _ (eqi_sev (n % 12) 0)) ?_
        rw [decide_eq_false k0, cond_false]
        refine Eq.trans (evK_t _ (eqi_sev (n % 12) 1)) ?_
        rw [decide_eq_false k1, cond_false]
        refine Eq.trans (evK_t _ (eqi_sev (n % 12) 2)) ?_
        rw [decide_eq_false k2, cond_false]
        refine Eq.trans (evK_t _ (eqi_sev (n % 12) 3)) ?_
        rw [decide_eq_false k3, cond_false]
        refine Eq.trans (evK_t _ (eqi_sev (n % 12) 4)) ?_
        rw [decide_eq_false k4, cond_false]
        refine Eq.trans (evK_t _ (eqi_sev (n % 12) 5)) ?_
        rw [decide_eq_true k5, cond_true]
        refine Eq.trans (evK_d _ (quo_sevI (m := 12) hn0 (by omega) (by omega))) ?_
        refine Eq.trans (evK_d _ (rem_sevI (m := 3) hq0 (by omega))) ?_
        refine Eq.trans (evK_t (decide (n / 12 % 3 > 0)) rfl) ?_
        rw [decide_eq_false k6, cond_false]
        refine Eq.trans (evK_e _ (ap (OpV.mk 2 (1 + n % s.ns) eB 0)) rfl) ?_
        refine Eq.trans (evK_d _ inc) ?_
        exact e
    · obtain ⟨l, e, hl⟩ := next _ g3
      refine ⟨l, pre ?_, hl⟩
      refine Eq.trans (evK_t _ (eqi_sev (n % 12) 0)) ?_
      rw [decide_eq_false k0, cond_false]
      refine Eq.trans (evK_t _ (eqi_sev (n % 12) 1)) ?_
      rw [decide_eq_false k1, cond_false]
      refine Eq.trans (evK_t _ (eqi_sev (n % 12) 2)) ?_
      rw [decide_eq_false k2, cond_false]
      refine Eq.trans (evK_t _ (eqi_sev (n % 12) 3)) ?_
      rw [decide_eq_false k3, cond_false]
      refine Eq.trans (evK_t _ (eqi_sev (n % 12) 4)) ?_
      rw [decide_eq_false k4, cond_false]
      refine Eq.trans (evK_t _ (eqi_sev (n % 12) 5)) ?_
      rw [decide_eq_false k5, cond_false]
      refine Eq.trans (evK_c [.string fb] [] rfl efb) ?_
      refine Eq.trans (evK_e _ (ap (OpV.mk 3 (1 + n % s.ns) fb 0)) rfl) ?_
      refine Eq.trans (evK_d _ inc) ?_
      exact e
theorem scene_cF (l k : List Value) : scene_c.F l k = CFn.F (P := Tryz.prog) scD scene_f l k := by kernel_rfl
theorem scene_F {a q : Int} (ha : i64R a) (hq : 1 ≤ q ∧ q ≤ 65536) {V : Value} {c : List Int} (hC : IV V c) (hc : c.length ≤ 30) (hc64 : ∀ x ∈ c, i64R x) : ∃ s l, scene_c.F [.int .i64 a, .int .i64 q] [V] = some (suL s, [outV l]) ∧ suS s ∧ l.length ≤ 34 ∧ ∀ o ∈ l, OpG o := by
  obtain ⟨s, es, hs⟩ := ssetup_S ha hq
  have hns : 1 ≤ s.ns ∧ s.ns ≤ 4 := hs.2.2.2.2.2.2.2.2.1
  obtain ⟨l, e, hl⟩ := scene_1 s hs (V := V) (rs := ([], [])) 31 s.ns.toNat 0 [] (by omega) rfl (fun o h => (List.not_mem_nil h).elim) (fun acc' h1 h2 => scene_2 s hs hC hc hc64 c.length 31 0 acc' (by omega) (by omega) h2 (by omega))
  refine ⟨s, l, ?_, hs, hl⟩
  rw [scene_cF]
  refine CFn.begin (31 + s.ns.toNat + 2) (by unfold manyK; omega) ?_
  refine Eq.trans (CFn.step _ rfl) ?_
  refine Eq.trans (evK_c (suL s) [] rfl es) ?_
  exact e
end Go.Proofs.YtfcjlgdpdomoeaaGreat.U
