/- ServerSessions: the law answers true, and its call. -/
import Derived.Test.YtgddinljekkhdaaGreatZG
import Derived.Test.YtgddinljekkhdaaGreatEngV1
import Derived.Test.YtgddinljekkhdaaGreatZD
set_option linter.unusedSimpArgs false
set_option linter.unusedVariables false
namespace Go.Proofs.YtgddinljekkhdaaGreat.U
open Go Go.Eng Go.RowKit
set_option maxRecDepth 100000
def IV (V : Value) (c : List Int) : Prop := lrows V = some (c.map fun x => [.int .i64 x])
def i64R (n : Int) : Prop := -9223372036854775808 ≤ n ∧ n ≤ 9223372036854775807
theorem i64_of {n : Int} (h : (Lit.int .i64 n).wf = true) : i64R n := by
  have h' : (decide (IntKind.i64.min ≤ n) && decide (n ≤ IntKind.i64.max)) = true := h
  have q := Bool.and_eq_true_iff.1 h'
  exact ⟨of_decide_eq_true q.1, of_decide_eq_true q.2⟩
theorem ints_is {w : World} {v : Value} {ds : List Value} (h : Reads w [.l [.i .i64]] [v] ds) : ∃ (V : Value) (c : List Int), IV V c ∧ (∀ x ∈ c, i64R x) ∧ DenF (phiW w).fz v V := by
  have hl := h.len2
  match ds, hl with
  | [d], _ =>
    have t := h.typ 0 _ d rfl rfl
    have e := h.den 0 v d rfl rfl
    refine ⟨d, ?_⟩
    cases t with
    | n => exact ⟨[], rfl, fun x hx => (List.not_mem_nil hx).elim, e⟩
    | l _ rs h1 h2 h3 =>
      have key : ∀ rs : List (List Value), (∀ r ∈ rs, r.length = [CT.i .i64].length) → (∀ r ∈ rs, ∀ (j : Nat) (k : CT) (d : Value), [CT.i .i64][j]? = some k → r[j]? = some d → IsD k d) → ∃ c : List Int, (rs = c.map fun n => [.int .i64 n]) ∧ ∀ x ∈ c, i64R x := by
        intro rs
        induction rs with
        | nil => intro _ _; exact ⟨[], rfl, fun x hx => (List.not_mem_nil hx).elim⟩
        | cons r rs ih =>
          intro g1 g2
          obtain ⟨c, hc, hc2⟩ := ih (fun r hr => g1 r (List.mem_cons_of_mem _ hr)) (fun r hr => g2 r (List.mem_cons_of_mem _ hr))
          have hr := g1 r (List.mem_cons_self ..)
          match r, hr with
          | [a], _ =>
            have hd := g2 [a] (List.mem_cons_self ..) 0 _ a rfl rfl
            cases hd with
            | i _ n wf =>
              refine ⟨n :: c, by rw [hc]; rfl, fun x hx => ?_⟩
              rcases List.mem_cons.1 hx with rfl | hx
              · exact i64_of wf
              · exact hc2 x hx
      obtain ⟨c, rfl, hc2⟩ := key rs h2 h3
      exact ⟨c, lrows_lv _, hc2, e⟩

def AllP (p : Nat → CutD → Prop) : Nat → List CutD → Prop
  | _, [] => True
  | q, d :: r => p q d ∧ AllP p (q + 1) r
theorem AllP_at {p : Nat → CutD → Prop} : ∀ {l : List CutD} {a i : Nat} {d : CutD}, AllP p a l → l[i]? = some d → p (a + i) d
  | [], _, _, _, _, h => by simp at h
  | U :: r, a, 0, d, h, h2 => by
    have : U = d := by simpa using h2
    subst this
    exact h.1
  | U :: r, a, i + 1, d, h, h2 => by
    have := AllP_at h.2 (show r[i]? = some d from h2)
    rw [show a + (i + 1) = a + 1 + i by omega]
    exact this
def lwl : List CutD := [lw_D1, lw_D2, lw_D3, lw_D4, lw_D5, lw_D6, lw_D7, lw_D8, lw_D9, lw_D10, lw_D11, lw_D12, lw_D13, lw_D14, lw_D15, lw_D16, lw_D17, lw_D18, lw_D19, lw_D20, lw_D21, lw_D22, lw_D23, lw_D24, lw_D25, lw_D26, lw_D27, lw_D28, lw_D29, lw_D30, lw_D31, lw_D32, lw_D33, lw_D34, lw_D35, lw_D36, lw_D37, lw_D38, lw_D39, lw_D40, lw_D41, lw_D42, lw_D43, lw_D44, lw_D45, lw_D46, lw_D47, lw_D48, lw_D49, lw_D50, lw_D51, lw_D52, lw_D53, lw_D54, lw_D55, lw_D56, lw_D57, lw_D58, lw_D59, lw_D60, lw_D61, lw_D62, lw_D63, lw_D64, lw_D65, lw_D66, lw_D67, lw_D68, lw_D69, lw_D70, lw_D71, lw_D72, lw_D73, lw_D74, lw_D75, lw_D76, lw_D77, lw_D78, lw_D79, lw_D80, lw_D81, lw_D82, lw_D83, lw_D84, lw_D85, lw_D86, lw_D87, lw_D88, lw_D89, lw_D90, lw_D91, lw_D92]
def lwDs : Nat → Option CutD
  | 0 => none
  | q + 1 => lwl[q]?
theorem lw_all : AllP (fun q d => ∃ c, lw_f.cuts[q]? = some c ∧ c.T = d.T lw_E ∧ c.ns = d.I + 1 ∧ c.nl = 4 ∧ okD lwC lwS lwt lwk q d = true) 1 lwl :=
  ⟨⟨lw_k1, rfl, rfl, rfl, rfl, okd1⟩, ⟨⟨lw_k2, rfl, rfl, rfl, rfl, okd2⟩, ⟨⟨lw_k3, rfl, rfl, rfl, rfl, okd3⟩, ⟨⟨lw_k4, rfl, rfl, rfl, rfl, okd4⟩, ⟨⟨lw_k5, rfl, rfl, rfl, rfl, okd5⟩, ⟨⟨lw_k6, rfl, rfl, rfl, rfl, okd6⟩, ⟨⟨lw_k7, rfl, rfl, rfl, rfl, okd7⟩, ⟨⟨lw_k8, rfl, rfl, rfl, rfl, okd8⟩, ⟨⟨lw_k9, rfl, rfl, rfl, rfl, okd9⟩, ⟨⟨lw_k10, rfl, rfl, rfl, rfl, okd10⟩, ⟨⟨lw_k11, rfl, rfl, rfl, rfl, okd11⟩, ⟨⟨lw_k12, rfl, rfl, rfl, rfl, okd12⟩, ⟨⟨lw_k13, rfl, rfl, rfl, rfl, okd13⟩, ⟨⟨lw_k14, rfl, rfl, rfl, rfl, okd14⟩, ⟨⟨lw_k15, rfl, rfl, rfl, rfl, okd15⟩, ⟨⟨lw_k16, rfl, rfl, rfl, rfl, okd16⟩, ⟨⟨lw_k17, rfl, rfl, rfl, rfl, okd17⟩, ⟨⟨lw_k18, rfl, rfl, rfl, rfl, okd18⟩, ⟨⟨lw_k19, rfl, rfl, rfl, rfl, okd19⟩, ⟨⟨lw_k20, rfl, rfl, rfl, rfl, okd20⟩, ⟨⟨lw_k21, rfl, rfl, rfl, rfl, okd21⟩, ⟨⟨lw_k22, rfl, rfl, rfl, rfl, okd22⟩, ⟨⟨lw_k23, rfl, rfl, rfl, rfl, okd23⟩, ⟨⟨lw_k24, rfl, rfl, rfl, rfl, okd24⟩, ⟨⟨lw_k25, rfl, rfl, rfl, rfl, okd25⟩, ⟨⟨lw_k26, rfl, rfl, rfl, rfl, okd26⟩, ⟨⟨lw_k27, rfl, rfl, rfl, rfl, okd27⟩, ⟨⟨lw_k28, rfl, rfl, rfl, rfl, okd28⟩, ⟨⟨lw_k29, rfl, rfl, rfl, rfl, okd29⟩, ⟨⟨lw_k30, rfl, rfl, rfl, rfl, okd30⟩, ⟨⟨lw_k31, rfl, rfl, rfl, rfl, okd31⟩, ⟨⟨lw_k32, rfl, rfl, rfl, rfl, okd32⟩, ⟨⟨lw_k33, rfl, rfl, rfl, rfl, okd33⟩, ⟨⟨lw_k34, rfl, rfl, rfl, rfl, okd34⟩, ⟨⟨lw_k35, rfl, rfl, rfl, rfl, okd35⟩, ⟨⟨lw_k36, rfl, rfl, rfl, rfl, okd36⟩, ⟨⟨lw_k37, rfl, rfl, rfl, rfl, okd37⟩, ⟨⟨lw_k38, rfl, rfl, rfl, rfl, okd38⟩, ⟨⟨lw_k39, rfl, rfl, rfl, rfl, okd39⟩, ⟨⟨lw_k40, rfl, rfl, rfl, rfl, okd40⟩, ⟨⟨lw_k41, rfl, rfl, rfl, rfl, okd41⟩, ⟨⟨lw_k42, rfl, rfl, rfl, rfl, okd42⟩, ⟨⟨lw_k43, rfl, rfl, rfl, rfl, okd43⟩, ⟨⟨lw_k44, rfl, rfl, rfl, rfl, okd44⟩, ⟨⟨lw_k45, rfl, rfl, rfl, rfl, okd45⟩, ⟨⟨lw_k46, rfl, rfl, rfl, rfl, okd46⟩, ⟨⟨lw_k47, rfl, rfl, rfl, rfl, okd47⟩, ⟨⟨lw_k48, rfl, rfl, rfl, rfl, okd48⟩, ⟨⟨lw_k49, rfl, rfl, rfl, rfl, okd49⟩, ⟨⟨lw_k50, rfl, rfl, rfl, rfl, okd50⟩, ⟨⟨lw_k51, rfl, rfl, rfl, rfl, okd51⟩, ⟨⟨lw_k52, rfl, rfl, rfl, rfl, okd52⟩, ⟨⟨lw_k53, rfl, rfl, rfl, rfl, okd53⟩, ⟨⟨lw_k54, rfl, rfl, rfl, rfl, okd54⟩, ⟨⟨lw_k55, rfl, rfl, rfl, rfl, okd55⟩, ⟨⟨lw_k56, rfl, rfl, rfl, rfl, okd56⟩, ⟨⟨lw_k57, rfl, rfl, rfl, rfl, okd57⟩, ⟨⟨lw_k58, rfl, rfl, rfl, rfl, okd58⟩, ⟨⟨lw_k59, rfl, rfl, rfl, rfl, okd59⟩, ⟨⟨lw_k60, rfl, rfl, rfl, rfl, okd60⟩, ⟨⟨lw_k61, rfl, rfl, rfl, rfl, okd61⟩, ⟨⟨lw_k62, rfl, rfl, rfl, rfl, okd62⟩, ⟨⟨lw_k63, rfl, rfl, rfl, rfl, okd63⟩, ⟨⟨lw_k64, rfl, rfl, rfl, rfl, okd64⟩, ⟨⟨lw_k65, rfl, rfl, rfl, rfl, okd65⟩, ⟨⟨lw_k66, rfl, rfl, rfl, rfl, okd66⟩, ⟨⟨lw_k67, rfl, rfl, rfl, rfl, okd67⟩, ⟨⟨lw_k68, rfl, rfl, rfl, rfl, okd68⟩, ⟨⟨lw_k69, rfl, rfl, rfl, rfl, okd69⟩, ⟨⟨lw_k70, rfl, rfl, rfl, rfl, okd70⟩, ⟨⟨lw_k71, rfl, rfl, rfl, rfl, okd71⟩, ⟨⟨lw_k72, rfl, rfl, rfl, rfl, okd72⟩, ⟨⟨lw_k73, rfl, rfl, rfl, rfl, okd73⟩, ⟨⟨lw_k74, rfl, rfl, rfl, rfl, okd74⟩, ⟨⟨lw_k75, rfl, rfl, rfl, rfl, okd75⟩, ⟨⟨lw_k76, rfl, rfl, rfl, rfl, okd76⟩, ⟨⟨lw_k77, rfl, rfl, rfl, rfl, okd77⟩, ⟨⟨lw_k78, rfl, rfl, rfl, rfl, okd78⟩, ⟨⟨lw_k79, rfl, rfl, rfl, rfl, okd79⟩, ⟨⟨lw_k80, rfl, rfl, rfl, rfl, okd80⟩, ⟨⟨lw_k81, rfl, rfl, rfl, rfl, okd81⟩, ⟨⟨lw_k82, rfl, rfl, rfl, rfl, okd82⟩, ⟨⟨lw_k83, rfl, rfl, rfl, rfl, okd83⟩, ⟨⟨lw_k84, rfl, rfl, rfl, rfl, okd84⟩, ⟨⟨lw_k85, rfl, rfl, rfl, rfl, okd85⟩, ⟨⟨lw_k86, rfl, rfl, rfl, rfl, okd86⟩, ⟨⟨lw_k87, rfl, rfl, rfl, rfl, okd87⟩, ⟨⟨lw_k88, rfl, rfl, rfl, rfl, okd88⟩, ⟨⟨lw_k89, rfl, rfl, rfl, rfl, okd89⟩, ⟨⟨lw_k90, rfl, rfl, rfl, rfl, okd90⟩, ⟨⟨lw_k91, rfl, rfl, rfl, rfl, okd91⟩, ⟨⟨lw_k92, rfl, rfl, rfl, rfl, okd92⟩, trivial⟩⟩⟩⟩⟩⟩⟩⟩⟩⟩⟩⟩⟩⟩⟩⟩⟩⟩⟩⟩⟩⟩⟩⟩⟩⟩⟩⟩⟩⟩⟩⟩⟩⟩⟩⟩⟩⟩⟩⟩⟩⟩⟩⟩⟩⟩⟩⟩⟩⟩⟩⟩⟩⟩⟩⟩⟩⟩⟩⟩⟩⟩⟩⟩⟩⟩⟩⟩⟩⟩⟩⟩⟩⟩⟩⟩⟩⟩⟩⟩⟩⟩⟩⟩⟩⟩⟩⟩⟩⟩⟩⟩
theorem lwl_len : lwl.length = 92 := rfl
theorem awake_F : awake_c.F [] [] = some ([], []) := by kernel_rfl
theorem copyA (G r t V : Value) (i m : Nat) (hm : m < 6) : c66_c.F ([5, 6, 7, 20, 7, 25, 7, 21, 22, 6, 6].map (lwV G (.int .i64 ((m + 1 : Nat) : Int)) r t i)) ([2, 0, 3].map (lwL V (m + 1))) = some (([5, 6, 7, 20, 7, 25, 7, 21, 22, 6, 6, 5, 6, 7, 20, 7, 25, 7, 21, 22, 6, 6]).map (lwV G (.int .i64 ((m + 1 : Nat) : Int)) r t i), [2, 0, 3, 2, 0, 3, 0].map (lwL V (m + 1))) := by
  match m, hm with
  | 0, _ => exact copy1 G r t V i
  | 1, _ => exact copy2 G r t V i
  | 2, _ => exact copy3 G r t V i
  | 3, _ => exact copy4 G r t V i
  | 4, _ => exact copy5 G r t V i
  | 5, _ => exact copy6 G r t V i
theorem lwS_no10 (q : Nat) : ∀ a ∈ lwS q, a ≠ 10 := by
  unfold lwS
  cases Nat.ble q 4 with
  | true => decide
  | false => decide
theorem loopH (G r t V : Value) (m : Nat) (hm : m < 6) (nums : List Int) (hV : IV V nums) (h40 : nums.length ≤ 40) : LoopH Tryz.prog lw_d lw_f (fun i => lwV G (.int .i64 ((m + 1 : Nat) : Int)) r t i) (lwL V (m + 1)) lwC lwS lwt lwk lwDs lw_E ([tt], []) V nums where
  cut := fun q d h => by
    cases q with
    | zero => cases h
    | succ q =>
      have := AllP_at lw_all (show lwl[q]? = some d from h)
      rw [show 1 + q = q + 1 by omega] at this
      exact this
  oks := fun j h => by
    have h := Bool.and_eq_true_iff.1 h
    have h1 := Nat.le_of_ble_eq_true h.1
    have h2 := Nat.le_of_ble_eq_true h.2
    obtain ⟨q, rfl⟩ : ∃ q, j = q + 1 := ⟨j - 1, by omega⟩
    exact ⟨_, List.getElem?_eq_getElem (by rw [lwl_len]; omega)⟩
  lt4 := rfl
  lt0 := rfl
  v1 := rfl
  rows := hV
  many := h40
  kon := fun i => lwV_kon _ _ _ _ _ _ i
  calls := fun i c hc => by
    simp only [lwC, List.mem_cons, List.not_mem_nil, or_false] at hc
    rcases hc with rfl | rfl
    · exact ⟨c66_c, rfl, copyA G r t V i m hm, rfl, rfl⟩
    · exact ⟨c67_c, rfl, clone_F, rfl, rfl⟩
  h9 := fun i => rfl
  h10 := fun i => rfl
  hv := fun i a h1 h2 => lwV_hv _ _ _ _ i a h1 h2
  no10 := lwS_no10
  fin := fun n env k => (evK_c [] [] rfl awake_F).trans rfl
theorem ent (G r t V : Value) (m : Nat) (hm : m < 6) (nums : List Int) (hV : IV V nums) (h40 : nums.length ≤ 40) (j : Nat) (h1 : 1 ≤ j) (h4 : j ≤ 4) (env : Env) (hs : TS (lwV G (.int .i64 ((m + 1 : Nat) : Int)) r t 0) (s19.map some) env.s) (hl : TS (lwL V (m + 1)) (lwt.map some) env.l) : CFn.run lw_d lw_f (manyK - 1) j env = some ([tt], []) := by
  obtain ⟨d, hd⟩ := (loopH G r t V m hm nums hV h40).oks j (by
    unfold lwk
    rw [Nat.ble_eq_true_of_le h1, Nat.ble_eq_true_of_le (by omega)]; rfl)
  refine loop_ok (loopH G r t V m hm nums hV h40) nums.length 0 j env d (manyK - 1) hd ?_ hl (by omega) (by unfold manyK; omega)
  unfold lwS
  rw [Nat.ble_eq_true_of_le h4]
  exact hs
set_option maxHeartbeats 0 in
theorem law_F (z : Int) (V : Value) (nums : List Int) (hV : IV V nums) : lw_c.F [.int .i64 z] [V] = some ([tt], []) := by
  have h3 : ∀ u v, lw_c.F u v = CFn.F (P := Tryz.prog) lw_d lw_f u v := by intro u v; kernel_rfl
  rw [h3]
  refine Eq.trans (flat_eq lw_k0 rfl) ?_
  obtain ⟨d⟩ := dg z
  have hb := d.hb
  have hlen : lsev .len [V] = some (.int .i64 (nums.length : Int)) := by
    show (lrows V).map _ = _
    have hV : lrows V = some (nums.map fun x => [.int .i64 x]) := hV
    rw [hV, Option.map_some, List.length_map]; rfl
  have h4 : d.b = 0 ∨ d.b = 1 ∨ d.b = 2 ∨ d.b = 3 := by omega
  rcases h4 with h | h | h | h
  · refine (evK_o1 _ _ rfl (d.f0 h)).trans ?_
    refine (evK_c _ _ rfl (new0_F d.g d.m d.r d.t d.hm d.hr d.ht)).trans ?_
    refine (evK_es _ hlen rfl).trans ?_
    by_cases h40 : 40 < nums.length
    · refine evK_tT ((cmpG nums.length 40).trans (by rw [decide_eq_true h40])) ?_
      exact (evK_c [] [] rfl awake_F).trans rfl
    · refine evK_tF ((cmpG nums.length 40).trans (by rw [decide_eq_false h40])) ?_
      exact ent (gv d.g) (.int .i64 ((d.r + 1 : Nat) : Int)) (.int .i64 ((d.t + 1 : Nat) : Int)) V d.m d.hm nums hV (by omega) 4 (by omega) (by omega) _ (TS_len (x := s19) (d := .int .i64 0)) (TS_len (x := lwt) (d := .slice none 0 0))
  · refine (evK_o2 rfl (d.n0 (by omega))).trans ?_
    refine (evK_o1 _ _ rfl (d.f1 h)).trans ?_
    refine (evK_c _ _ rfl (new1_F d.g d.m d.r d.t d.hm d.hr d.ht)).trans ?_
    refine (evK_es _ hlen rfl).trans ?_
    by_cases h40 : 40 < nums.length
    · refine evK_tT ((cmpG nums.length 40).trans (by rw [decide_eq_true h40])) ?_
      exact (evK_c [] [] rfl awake_F).trans rfl
    · refine evK_tF ((cmpG nums.length 40).trans (by rw [decide_eq_false h40])) ?_
      exact ent (gv d.g) (.int .i64 ((d.r + 1 : Nat) : Int)) (.int .i64 ((d.t + 1 : Nat) : Int)) V d.m d.hm nums hV (by omega) 3 (by omega) (by omega) _ (TS_len (x := s19) (d := .int .i64 0)) (TS_len (x := lwt) (d := .slice none 0 0))
  · refine (evK_o2 rfl (d.n0 (by omega))).trans ?_
    refine (evK_o2 rfl (d.n1 (by omega))).trans ?_
    refine (evK_o1 _ _ rfl (d.f2 h)).trans ?_
    refine (evK_c _ _ rfl (new2_F d.g d.m d.r d.t d.hm d.hr d.ht)).trans ?_
    refine (evK_es _ hlen rfl).trans ?_
    by_cases h40 : 40 < nums.length
    · refine evK_tT ((cmpG nums.length 40).trans (by rw [decide_eq_true h40])) ?_
      exact (evK_c [] [] rfl awake_F).trans rfl
    · refine evK_tF ((cmpG nums.length 40).trans (by rw [decide_eq_false h40])) ?_
      exact ent (gv d.g) (.int .i64 ((d.r + 1 : Nat) : Int)) (.int .i64 ((d.t + 1 : Nat) : Int)) V d.m d.hm nums hV (by omega) 2 (by omega) (by omega) _ (TS_len (x := s19) (d := .int .i64 0)) (TS_len (x := lwt) (d := .slice none 0 0))
  · refine (evK_o2 rfl (d.n0 (by omega))).trans ?_
    refine (evK_o2 rfl (d.n1 (by omega))).trans ?_
    refine (evK_o2 rfl (d.n2 (by omega))).trans ?_
    refine (evK_c _ _ rfl (d.f3 h)).trans ?_
    refine (evK_c _ _ rfl (new3_F d.g d.m d.r d.t d.hm d.hr d.ht)).trans ?_
    refine (evK_es _ hlen rfl).trans ?_
    by_cases h40 : 40 < nums.length
    · refine evK_tT ((cmpG nums.length 40).trans (by rw [decide_eq_true h40])) ?_
      exact (evK_c [] [] rfl awake_F).trans rfl
    · refine evK_tF ((cmpG nums.length 40).trans (by rw [decide_eq_false h40])) ?_
      exact ent (gv d.g) (.int .i64 ((d.r + 1 : Nat) : Int)) (.int .i64 ((d.t + 1 : Nat) : Int)) V d.m d.hm nums hV (by omega) 1 (by omega) (by omega) _ (TS_len (x := s19) (d := .int .i64 0)) (TS_len (x := lwt) (d := .slice none 0 0))
theorem law_call {W : World} (z : Int) {v V : Value} {c : List Int} (_ : (Lit.int .i64 z).wf = true) (dn : DenF (phiW W).fz v V) (hC : IV V c) (_ : ∀ x ∈ c, i64R x) : Calls Tryz.prog 3 ⟨[.int .i64 z, v]⟩ W fun e w' => e = .returned (.bool true) ∧ Below W.heap.size W w' := by
  have one : [Value.int .i64 z].all isOneV = true := rfl
  have hb : bL lw_c.pre [.int .i64 z] [V] = true := rfl
  refine (lw_c.enter rfl rfl hb (law_F z V c hC) one (W := W) (args := [.int .i64 z, v]) ?_).mono ?_
  · exact @VRL.cons (symL _ _ one) _ _ _ _ _ (@VR.sym (symL _ _ one) _ _ _ _ _ rfl) (@VRL.cons (symL _ _ one) _ _ _ _ _ (@VR.lsym (symL _ _ one) _ _ _ _ dn) (@VRL.nil (symL _ _ one) _))
  · rintro e w' ⟨v, rfl, hS, hbel⟩
    refine ⟨?_, hbel⟩
    obtain ⟨φ', hv⟩ := hS (symL [.bool true] [] rfl) symL_agrees
    have hv : @VR (symL [.bool true] [] rfl) φ' (.bool true) v := hv
    cases hv
    rfl
end Go.Proofs.YtgddinljekkhdaaGreat.U
