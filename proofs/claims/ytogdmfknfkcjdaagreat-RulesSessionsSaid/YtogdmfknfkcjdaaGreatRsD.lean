/- RulesSessions: what Sessions answers, whatever sessions are open: a list of so many numbers. -/
import Derived.Test.YtogdmfknfkcjdaaGreatRsB
import Derived.Test.YtogdmfknfkcjdaaGreatRsC
import Derived.Test.YtogdmfknfkcjdaaGreatEngR3
namespace Go.Proofs.YtogdmfknfkcjdaaGreat.Rs
open Go Go.Eng Go.RowKit
def cn (b : Nat → Bool) : Nat → Nat
  | 0 => 0
  | j + 1 => cn b j + (bif b (j + 1) then 1 else 0)
theorem cn_le (b : Nat → Bool) : ∀ j, cn b j ≤ j
  | 0 => Nat.le_refl _
  | j + 1 => by
    have := cn_le b j
    unfold cn
    cases b (j + 1) <;> simp <;> omega

theorem renL_self {f : Value → Option Value} : ∀ {xs : List Value}, (∀ x ∈ xs, f x = some x) → renL f xs = some xs
  | [], _ => rfl
  | x :: xs, h => by
    have h1 := h x (by simp)
    have h2 := renL_self (xs := xs) fun y hy => h y (by simp [hy])
    unfold renL
    rw [h1, h2]
    rfl
theorem syms_mem {c : Nat} {v : Value} (h : v ∈ syms c) : ∃ k, v = sv k := by
  obtain ⟨i, _, rfl⟩ := List.mem_map.1 h
  exact ⟨_, rfl⟩
theorem renB_cells {ρ : Nat → Option Nat} {xs : List Value} (h : ∀ x ∈ xs, renV ρ 7 x = some x) : renB ρ (.cells xs) = some (.cells xs) := by
  show Option.map (fun c' => LB.cells c') (renL (renV ρ 7) xs) = some (.cells xs)
  rw [renL_self h]
  rfl
theorem renB_blk (ρ : Nat → Option Nat) : ∀ c, renB ρ (blk c) = some (blk c)
  | 0 => rfl
  | c + 1 => renB_cells fun x hx => by obtain ⟨k, rfl⟩ := syms_mem hx; rfl
theorem renB_app (ρ : Nat → Option Nat) (c n : Nat) : renB ρ (.cells (syms c ++ [.int .i64 (.ofNat n)])) = some (.cells (syms c ++ [.int .i64 (.ofNat n)])) := renB_cells fun x hx => by
  rcases List.mem_append.1 hx with hx | hx
  · obtain ⟨k, rfl⟩ := syms_mem hx; rfl
  · simp only [List.mem_singleton] at hx; subst hx; rfl
theorem ub_blk : ∀ c, ubB (blk c) ≤ 1
  | 0 => Nat.zero_le _
  | c + 1 => ubL_of fun v hv => by obtain ⟨k, rfl⟩ := syms_mem hv; exact Nat.le_refl _
theorem syms_succ (c : Nat) : syms (c + 1) = syms c ++ [sv (100 + c)] := by
  unfold syms
  rw [List.range_succ, List.map_append]
  rfl

/-- ids below m stand where they stood, or are dead -/
def Fx (m : Nat) (φ ψ : Phi) : Prop := ∀ id, id < m → (φ id = none → ψ id = none) ∧ (φ id ≠ none → ψ id = φ id ∨ ψ id = some none)
theorem Fx.refl (m : Nat) (φ : Phi) : Fx m φ φ := fun _ _ => ⟨fun h => h, fun _ => .inl rfl⟩
theorem Fx.trans {m : Nat} {φ ψ χ : Phi} (h : Fx m φ ψ) (h' : Fx m ψ χ) : Fx m φ χ := fun id hid => by
  obtain ⟨a1, a2⟩ := h id hid
  obtain ⟨b1, b2⟩ := h' id hid
  refine ⟨fun h0 => b1 (a1 h0), fun h0 => ?_⟩
  rcases a2 h0 with q | q
  · rcases b2 (by rw [q]; exact h0) with r | r
    · exact .inl (r.trans q)
    · exact .inr r
  · rcases b2 (by rw [q]; simp) with r | r
    · exact .inr (r.trans q)
    · exact .inr r

theorem swapLast [SymV] {c : Nat} {n : Nat} (hv : SymV.val (100 + c) = .int .i64 (.ofNat n)) : SwapB (.cells (syms c ++ [.int .i64 (.ofNat n)])) (blk (c + 1)) := by
  show SwapB _ (.cells (syms (c + 1)))
  rw [syms_succ]
  refine swap_cells (by simp) fun φ i v v' y h1 h2 hy => ?_
  by_cases hi : i < (syms c).length
  · rw [List.getElem?_append_left hi] at h1 h2
    rw [h1] at h2
    cases h2
    exact hy
  · rw [List.getElem?_append_right (by omega)] at h1 h2
    cases hk : i - (syms c).length with
    | zero =>
      rw [hk] at h1 h2
      simp only [List.getElem?_cons_zero, Option.some.injEq] at h1 h2
      subst h1
      subst h2
      cases hy
      exact .sym _ _ _ _ hv.symm
    | succ k => rw [hk] at h1; simp at h1

theorem okP (b : Nat → Bool) (X : LB) (hX : ubB X ≤ 1) : (7 : Nat) ≤ 16384 ∧ ∀ p ∈ (stL b ++ [(6, X)]), p.1 < 7 ∧ ubB p.2 ≤ 7 := by
  refine ⟨by decide, fun p hp => ?_⟩
  rcases List.mem_append.1 hp with hp | hp
  · have := (stL_ok b).2 p hp
    exact ⟨by omega, by omega⟩
  · simp only [List.mem_singleton] at hp; subst hp; exact ⟨blt_lt rfl, by show ubB X ≤ _; omega⟩
theorem ubP (c n : Nat) : ubB (.cells (syms c ++ [.int .i64 (.ofNat n)])) ≤ 1 := ubL_of fun v hv => by
  rcases List.mem_append.1 hv with hv | hv
  · obtain ⟨k, rfl⟩ := syms_mem hv; exact Nat.le_refl _
  · simp only [List.mem_singleton] at hv; subst hv; exact Nat.zero_le _
def rhoNP : List (Nat × Nat) := [(0, 0), (1, 1), (2, 2), (3, 3), (4, 4), (5, 5), (6, 6)]
def rhoAP : List (Nat × Nat) := [(0, 0), (1, 1), (2, 2), (3, 3), (4, 4), (5, 5), (6, 8)]
theorem fxNP {φ ψ : Phi} {w w' : World} (h : Stp 7 rhoNP φ ψ w w') : Fx 6 φ ψ := fun id hid => by
  refine h.fix id ?_ (by omega)
  match id, hid with
  | 0, _ => rfl
  | 1, _ => rfl
  | 2, _ => rfl
  | 3, _ => rfl
  | 4, _ => rfl
  | 5, _ => rfl
theorem fxAP {φ ψ : Phi} {w w' : World} (h : Stp 7 rhoAP φ ψ w w') : Fx 6 φ ψ := fun id hid => by
  refine h.fix id ?_ (by omega)
  match id, hid with
  | 0, _ => rfl
  | 1, _ => rfl
  | 2, _ => rfl
  | 3, _ => rfl
  | 4, _ => rfl
  | 5, _ => rfl

theorem swapP [SymV] {b : Nat → Bool} {X X' : LB} (h : SwapB X X') (h1 : ubB X ≤ 1) (h2 : ubB X' ≤ 1) {base : Nat} {φ : Phi} {w : World} (hst : St base 7 (stL b ++ [(6, X)]) φ w) : St base 7 (stL b ++ [(6, X')]) φ w := by
  refine ⟨MR.swap (show (7 : Nat) ≤ 16384 by decide) (fun p hp => ((okP b X h1).2 p hp).1) (fun p hp => ((okP b X' h2).2 p hp).1) (fun id => ?_) hst.bd hst.mr, hst.bd, hst.from_, hst.size⟩
  simp only [stL, List.cons_append, List.nil_append, lk]
  repeat' split
  all_goals first
    | exact .inl ⟨rfl, rfl⟩
    | exact .inr ⟨_, _, rfl, rfl, SwapB.refl _⟩
    | exact .inr ⟨_, _, rfl, rfl, h⟩

theorem stepP [SymV] [SymT] (b : Nat → Bool) {j c : Nat} (hj : j < 16) (hc : c ≤ j) (hval : b (j + 1) = true → SymV.val (100 + c) = .int .i64 (.ofNat (j + 1))) {base : Nat} {φ : Phi} {w : World} {a : Act}
    (hst : St base 7 (stL b ++ [(6, blk c)]) φ w) (hφ : φ 0 = some none) (hf : FL [(0, pt 1), (3, outS 6 c), (5, .int .i64 (.ofNat (j + 0)))] 19 φ a) {Q : Exit → Act → World → Prop}
    (hQ : ∀ ψ w' a', St base 7 (stL b ++ [(6, blk (c + bif b (j + 1) then 1 else 0))]) ψ w' → ψ 0 = some none → FL [(0, pt 1), (3, outS 6 (c + bif b (j + 1) then 1 else 0)), (5, .int .i64 (.ofNat (j + 0 + 1)))] 19 ψ a' → Below base w w' → a'.defers = a.defers → Fx 6 φ ψ → Q .normal a' w') :
    wpL Tryz.prog Q (flat BP) a w := by
  cases hb : b (j + 1) with
  | true =>
    have e := upd_same hb
    refine code_runE pok callX_ok (l' := (stL b ++ [(6, .cells (syms c ++ [.int .i64 (.ofNat (j + 1))]))])) (ρ := rhoAP) (live' := [(0, pt 1), (3, .slice (some ⟨6, 0, some 1⟩) (c + 1) (c + 1)), (5, .int .i64 (.ofNat (j + 0 + 1)))]) (lx := .norm) (is := [1, 2, 4, 8]) (ts := [0, 3, 5])
      (bs := [some (.cells [pt 2]), some (stR b), some (stQ b), some (.cells (syms c ++ [.int .i64 (.ofNat (j + 1))]))]) (vs := [pt 1, .slice (some ⟨8, 0, some 1⟩) (c + 1) (c + 1), .int .i64 (.ofNat (j + 0 + 1))]) (okP b _ (ub_blk c)) rfl rfl
      (fun u => by have := rP j hj c hc true b u; rw [e] at this; exact this) (by decide) rfl (fun p hp => ((okP b _ (ubP c (j + 1))).2 p hp).1) (fun p hp => ?_) (fun p hp => ?_) hst hφ hf fun ψ w' a' s1 s2 s3 s4 s5 s6 => ?_
    · simp only [rhoAP, List.mem_cons, List.not_mem_nil, or_false] at hp
      rcases hp with rfl | rfl | rfl | rfl | rfl | rfl | rfl
      · exact ⟨.dead, rfl, .inl rfl⟩
      · exact ⟨_, rfl, .inr ⟨0, _, rfl, rfl, rfl⟩⟩
      · exact ⟨_, rfl, .inr ⟨1, _, rfl, rfl, rfl⟩⟩
      · exact ⟨.dead, rfl, .inl rfl⟩
      · exact ⟨_, rfl, .inr ⟨2, _, rfl, rfl, rfl⟩⟩
      · exact ⟨.dead, rfl, .inl rfl⟩
      · exact ⟨_, rfl, .inr ⟨3, _, renB_app _ c (j + 1), rfl, rfl⟩⟩
    · simp only [List.mem_cons, List.not_mem_nil, or_false] at hp
      rcases hp with rfl | rfl | rfl
      · exact ⟨0, _, rfl, rfl, rfl⟩
      · exact ⟨1, _, rfl, rfl, rfl⟩
      · exact ⟨2, _, rfl, rfl, rfl⟩
    · rw [hb] at hQ
      exact hQ ψ w' a' (swapP (swapLast (hval hb)) (ubP c (j + 1)) (ub_blk (c + 1)) s1) s2 s3 s4 s5 (fxAP s6)
  | false =>
    have e := upd_same hb
    refine code_runE pok callX_ok (l' := (stL b ++ [(6, blk c)])) (ρ := rhoNP) (live' := [(0, pt 1), (3, outS 6 c), (5, .int .i64 (.ofNat (j + 0 + 1)))]) (lx := .norm) (is := [1, 2, 4, 6]) (ts := [0, 3, 5])
      (bs := [some (.cells [pt 2]), some (stR b), some (stQ b), some (blk c)]) (vs := [pt 1, outS 6 c, .int .i64 (.ofNat (j + 0 + 1))]) (okP b _ (ub_blk c)) rfl rfl
      (fun u => by have := rP j hj c hc false b u; rw [e] at this; exact this) (by decide) rfl (fun p hp => ((okP b _ (ub_blk c)).2 p hp).1) (fun p hp => ?_) (fun p hp => ?_) hst hφ hf fun ψ w' a' s1 s2 s3 s4 s5 s6 => ?_
    · simp only [rhoNP, List.mem_cons, List.not_mem_nil, or_false] at hp
      rcases hp with rfl | rfl | rfl | rfl | rfl | rfl | rfl
      · exact ⟨.dead, rfl, .inl rfl⟩
      · exact ⟨_, rfl, .inr ⟨0, _, rfl, rfl, rfl⟩⟩
      · exact ⟨_, rfl, .inr ⟨1, _, rfl, rfl, rfl⟩⟩
      · exact ⟨.dead, rfl, .inl rfl⟩
      · exact ⟨_, rfl, .inr ⟨2, _, rfl, rfl, rfl⟩⟩
      · exact ⟨.dead, rfl, .inl rfl⟩
      · exact ⟨_, rfl, .inr ⟨3, _, renB_blk _ c, rfl, rfl⟩⟩
    · simp only [List.mem_cons, List.not_mem_nil, or_false] at hp
      rcases hp with rfl | rfl | rfl
      · exact ⟨0, _, rfl, rfl, rfl⟩
      · exact ⟨1, _, by cases c <;> rfl, rfl, rfl⟩
      · exact ⟨2, _, rfl, rfl, rfl⟩
    · rw [hb] at hQ
      exact hQ ψ w' a' s1 s2 s3 s4 s5 (fxNP s6)

theorem sessP [SymV] [SymT] (b : Nat → Bool) (hval : ∀ j, j < 16 → b (j + 1) = true → SymV.val (100 + cn b j) = .int .i64 (.ofNat (j + 1))) {base : Nat} {φ : Phi} {w : World} {r : Value}
    (hst : St base 7 (stL b ++ [(6, .dead)]) φ w) (hφ : φ 0 = some none) (hr : VR φ (pt 1) r) : Calls Tryz.prog 20 ⟨[r]⟩ w fun e w' => ∃ v ψ, e = .returned v ∧ St base 7 (stL b ++ [(6, blk (cn b 16))]) ψ w' ∧ ψ 0 = some none ∧ VR ψ (outS 6 (cn b 16)) v ∧ Fx 6 φ ψ ∧ Below base w w' := by
  refine calls_flat (c := CP) (t := 2) Tryz.func20 rfl rfl ?_
  rw [splitP]
  refine wpL_append _ _ _ _ ?_
  refine code_runE pok callX_ok (l := (stL b ++ [(6, blk 0)])) (l' := (stL b ++ [(6, blk 0)])) (ρ := rhoNP) (live := [(0, pt 1)]) (live' := [(0, pt 1), (3, outS 6 0), (5, .int .i64 (.ofNat 0))]) (lx := .norm) (is := [1, 2, 4]) (ts := [0, 3, 5])
    (bs := [some (.cells [pt 2]), some (stR b), some (stQ b)]) (vs := [pt 1, outS 6 0, .int .i64 (.ofNat 0)]) (okP b _ (ub_blk 0)) rfl rfl
    (fun u => bP b u) (by decide) rfl (fun p hp => ((okP b _ (ub_blk 0)).2 p hp).1) (fun p hp => ?_) (fun p hp => ?_) hst hφ (FL.start (nt := 19) (.cons _ _ [] [] hr .nil) (by decide) (by decide) [(0, pt 1)] (fun p hp => by simp only [List.mem_singleton] at hp; subst hp; rfl)) fun ψ1 w1 a1 s1 s2 s3 s4 s5 s6 => ?_
  · simp only [rhoNP, List.mem_cons, List.not_mem_nil, or_false] at hp
    rcases hp with rfl | rfl | rfl | rfl | rfl | rfl | rfl
    · exact ⟨.dead, rfl, .inl rfl⟩
    · exact ⟨_, rfl, .inr ⟨0, _, rfl, rfl, rfl⟩⟩
    · exact ⟨_, rfl, .inr ⟨1, _, rfl, rfl, rfl⟩⟩
    · exact ⟨.dead, rfl, .inl rfl⟩
    · exact ⟨_, rfl, .inr ⟨2, _, rfl, rfl, rfl⟩⟩
    · exact ⟨.dead, rfl, .inl rfl⟩
    · exact ⟨_, rfl, .inl rfl⟩
  · simp only [List.mem_cons, List.not_mem_nil, or_false] at hp
    rcases hp with rfl | rfl | rfl
    · exact ⟨0, _, rfl, rfl, rfl⟩
    · exact ⟨1, _, rfl, rfl, rfl⟩
    · exact ⟨2, _, rfl, rfl, rfl⟩
  have f1 := fxNP s6
  refine wp_block (loop_down (Q := Exit.inBlock 0 (Exit.then (wpL Tryz.prog _ ((flat CP).drop 4)) _)) (I := fun k a' w' => ∃ ψ : Phi, k ≤ 16 ∧ St base 7 (stL b ++ [(6, blk (cn b (16 - k)))]) ψ w' ∧ ψ 0 = some none ∧ FL [(0, pt 1), (3, outS 6 (cn b (16 - k))), (5, .int .i64 (.ofNat (16 - k + 0)))] 19 ψ a' ∧ Fx 6 φ ψ ∧ Below base w w' ∧ a'.defers = []) ?_ ?_ 16 a1 w1
    ⟨ψ1, Nat.le_refl _, by rw [Nat.sub_self]; exact s1, s2, by rw [Nat.sub_self]; exact s3, f1, s4, s5⟩)
  · rintro k a2 w2 ⟨ψ, hk, q1, q2, q3, q4, q5, q6⟩
    refine stepP b (j := 16 - (k + 1)) (c := cn b (16 - (k + 1))) (by omega) (cn_le b _) (hval _ (by omega)) q1 q2 q3 fun ψ' w' a' t1 t2 t3 t4 t5 t6 => ?_
    have e : 16 - k = 16 - (k + 1) + 1 := by omega
    refine ⟨ψ', by omega, ?_, t2, ?_, q4.trans t6, q5.trans t4, t5.trans q6⟩
    · rw [e]; exact t1
    · rw [e]
      rw [show 16 - (k + 1) + 1 + 0 = 16 - (k + 1) + 0 + 1 by omega]
      exact t3
  · rintro a2 w2 ⟨ψ, _, q1, q2, q3, q4, q5, q6⟩
    refine code_runE pok callX_ok (l' := (stL b ++ [(6, blk (cn b 16))])) (ρ := rhoNP) (live' := [(3, outS 6 (cn b 16))]) (lx := .exit 0) (is := [1, 2, 4, 6]) (ts := [0, 3, 5])
      (bs := [some (.cells [pt 2]), some (stR b), some (stQ b), some (blk (cn b 16))]) (vs := [pt 1, outS 6 (cn b 16), .int .i64 (.ofNat 16)]) (okP b _ (ub_blk _)) rfl rfl
      (fun u => eP (cn b 16) (cn_le b 16) b u) (by decide) rfl (fun p hp => ((okP b _ (ub_blk _)).2 p hp).1) (fun p hp => ?_) (fun p hp => ?_) q1 q2 q3 fun ψ3 w3 a3 t1 t2 t3 t4 t5 t6 => ?_
    · simp only [rhoNP, List.mem_cons, List.not_mem_nil, or_false] at hp
      rcases hp with rfl | rfl | rfl | rfl | rfl | rfl | rfl
      · exact ⟨.dead, rfl, .inl rfl⟩
      · exact ⟨_, rfl, .inr ⟨0, _, rfl, rfl, rfl⟩⟩
      · exact ⟨_, rfl, .inr ⟨1, _, rfl, rfl, rfl⟩⟩
      · exact ⟨.dead, rfl, .inl rfl⟩
      · exact ⟨_, rfl, .inr ⟨2, _, rfl, rfl, rfl⟩⟩
      · exact ⟨.dead, rfl, .inl rfl⟩
      · exact ⟨_, rfl, .inr ⟨3, _, renB_blk _ _, rfl, rfl⟩⟩
    · simp only [List.mem_singleton] at hp
      subst hp
      exact ⟨1, _, by generalize cn b 16 = c; cases c <;> rfl, rfl, rfl⟩
    · show wpL Tryz.prog _ ((flat CP).drop 4) a3 w3
      refine code_runE pok callX_ok (l' := (stL b ++ [(6, blk (cn b 16))])) (ρ := rhoNP) (live' := [(2, outS 6 (cn b 16))]) (lx := .ret) (is := [1, 2, 4, 6]) (ts := [2])
        (bs := [some (.cells [pt 2]), some (stR b), some (stQ b), some (blk (cn b 16))]) (vs := [outS 6 (cn b 16)]) (okP b _ (ub_blk _)) rfl rfl
        (fun u => pP (cn b 16) (cn_le b 16) b u) (by decide) rfl (fun p hp => ((okP b _ (ub_blk _)).2 p hp).1) (fun p hp => ?_) (fun p hp => ?_) t1 t2 t3 fun ψ4 w4 a4 v1 v2 v3 v4 v5 v6 => ?_
      · simp only [rhoNP, List.mem_cons, List.not_mem_nil, or_false] at hp
        rcases hp with rfl | rfl | rfl | rfl | rfl | rfl | rfl
        · exact ⟨.dead, rfl, .inl rfl⟩
        · exact ⟨_, rfl, .inr ⟨0, _, rfl, rfl, rfl⟩⟩
        · exact ⟨_, rfl, .inr ⟨1, _, rfl, rfl, rfl⟩⟩
        · exact ⟨.dead, rfl, .inl rfl⟩
        · exact ⟨_, rfl, .inr ⟨2, _, rfl, rfl, rfl⟩⟩
        · exact ⟨.dead, rfl, .inl rfl⟩
        · exact ⟨_, rfl, .inr ⟨3, _, renB_blk _ _, rfl, rfl⟩⟩
      · simp only [List.mem_singleton] at hp
        subst hp
        exact ⟨0, _, by generalize cn b 16 = c; cases c <;> rfl, rfl, rfl⟩
      · exact ⟨v5.trans (t5.trans q6), _, ψ4, rfl, v1, v2, v3.val (2, outS 6 (cn b 16)) (by simp), (q4.trans (fxNP t6)).trans (fxNP v6), (q5.trans t4).trans v4⟩

theorem okQ (b : Nat → Bool) {B6 : LB} (hB1 : ubB B6 ≤ 1) (X : LB) (hX : ubB X ≤ 1) : (8 : Nat) ≤ 16384 ∧ ∀ p ∈ ((stL b ++ [(6, B6)]) ++ [(7, X)]), p.1 < 8 ∧ ubB p.2 ≤ 8 := by
  refine ⟨by decide, fun p hp => ?_⟩
  rcases List.mem_append.1 hp with hp | hp
  · rcases List.mem_append.1 hp with hp | hp
    · have := (stL_ok b).2 p hp
      exact ⟨by omega, by omega⟩
    · simp only [List.mem_singleton] at hp; subst hp; exact ⟨blt_lt rfl, by show ubB B6 ≤ _; omega⟩
  · simp only [List.mem_singleton] at hp; subst hp; exact ⟨blt_lt rfl, by show ubB X ≤ _; omega⟩
theorem ubQ (c n : Nat) : ubB (.cells (syms c ++ [.int .i64 (.ofNat n)])) ≤ 1 := ubL_of fun v hv => by
  rcases List.mem_append.1 hv with hv | hv
  · obtain ⟨k, rfl⟩ := syms_mem hv; exact Nat.le_refl _
  · simp only [List.mem_singleton] at hv; subst hv; exact Nat.zero_le _
def rhoNQ : List (Nat × Nat) := [(0, 0), (1, 1), (2, 2), (3, 3), (4, 4), (5, 5), (6, 6), (7, 7)]
def rhoAQ : List (Nat × Nat) := [(0, 0), (1, 1), (2, 2), (3, 3), (4, 4), (5, 5), (6, 6), (7, 9)]
theorem fxNQ {φ ψ : Phi} {w w' : World} (h : Stp 8 rhoNQ φ ψ w w') : Fx 7 φ ψ := fun id hid => by
  refine h.fix id ?_ (by omega)
  match id, hid with
  | 0, _ => rfl
  | 1, _ => rfl
  | 2, _ => rfl
  | 3, _ => rfl
  | 4, _ => rfl
  | 5, _ => rfl
  | 6, _ => rfl
theorem fxAQ {φ ψ : Phi} {w w' : World} (h : Stp 8 rhoAQ φ ψ w w') : Fx 7 φ ψ := fun id hid => by
  refine h.fix id ?_ (by omega)
  match id, hid with
  | 0, _ => rfl
  | 1, _ => rfl
  | 2, _ => rfl
  | 3, _ => rfl
  | 4, _ => rfl
  | 5, _ => rfl
  | 6, _ => rfl

theorem swapQ [SymV] {b : Nat → Bool} {B6 : LB} {X X' : LB} (h : SwapB X X') (hB1 : ubB B6 ≤ 1) (h1 : ubB X ≤ 1) (h2 : ubB X' ≤ 1) {base : Nat} {φ : Phi} {w : World} (hst : St base 8 ((stL b ++ [(6, B6)]) ++ [(7, X)]) φ w) : St base 8 ((stL b ++ [(6, B6)]) ++ [(7, X')]) φ w := by
  refine ⟨MR.swap (show (8 : Nat) ≤ 16384 by decide) (fun p hp => ((okQ b hB1 X h1).2 p hp).1) (fun p hp => ((okQ b hB1 X' h2).2 p hp).1) (fun id => ?_) hst.bd hst.mr, hst.bd, hst.from_, hst.size⟩
  simp only [stL, List.cons_append, List.nil_append, lk]
  repeat' split
  all_goals first
    | exact .inl ⟨rfl, rfl⟩
    | exact .inr ⟨_, _, rfl, rfl, SwapB.refl _⟩
    | exact .inr ⟨_, _, rfl, rfl, h⟩

theorem stepQ [SymV] [SymT] (b : Nat → Bool) {B6 : LB} (hB1 : ubB B6 ≤ 1) (hB2 : ∀ ρ, renB ρ B6 = some B6) {j c : Nat} (hj : j < 16) (hc : c ≤ j) (hval : b (j + 1) = true → SymV.val (100 + c) = .int .i64 (.ofNat (j + 1))) {base : Nat} {φ : Phi} {w : World} {a : Act}
    (hst : St base 8 ((stL b ++ [(6, B6)]) ++ [(7, blk c)]) φ w) (hφ : φ 0 = some none) (hf : FL [(0, pt 4), (3, outS 7 c), (4, .int .i64 (.ofNat (j + 1)))] 17 φ a) {Q : Exit → Act → World → Prop}
    (hQ : ∀ ψ w' a', St base 8 ((stL b ++ [(6, B6)]) ++ [(7, blk (c + bif b (j + 1) then 1 else 0))]) ψ w' → ψ 0 = some none → FL [(0, pt 4), (3, outS 7 (c + bif b (j + 1) then 1 else 0)), (4, .int .i64 (.ofNat (j + 1 + 1)))] 17 ψ a' → Below base w w' → a'.defers = a.defers → Fx 7 φ ψ → Q .normal a' w') :
    wpL Tryz.prog Q (flat BQ) a w := by
  cases hb : b (j + 1) with
  | true =>
    have e := upd_same hb
    refine code_runE pok callX_ok (l' := ((stL b ++ [(6, B6)]) ++ [(7, .cells (syms c ++ [.int .i64 (.ofNat (j + 1))]))])) (ρ := rhoAQ) (live' := [(0, pt 4), (3, .slice (some ⟨7, 0, some 1⟩) (c + 1) (c + 1)), (4, .int .i64 (.ofNat (j + 1 + 1)))]) (lx := .norm) (is := [1, 2, 4, 6, 9]) (ts := [0, 3, 4])
      (bs := [some (.cells [pt 2]), some (stR b), some (stQ b), some B6, some (.cells (syms c ++ [.int .i64 (.ofNat (j + 1))]))]) (vs := [pt 4, .slice (some ⟨9, 0, some 1⟩) (c + 1) (c + 1), .int .i64 (.ofNat (j + 1 + 1))]) (okQ b hB1 _ (ub_blk c)) rfl rfl
      (fun u => by have := rQ j hj c hc true b B6 u; rw [e] at this; exact this) (by decide) rfl (fun p hp => ((okQ b hB1 _ (ubQ c (j + 1))).2 p hp).1) (fun p hp => ?_) (fun p hp => ?_) hst hφ hf fun ψ w' a' s1 s2 s3 s4 s5 s6 => ?_
    · simp only [rhoAQ, List.mem_cons, List.not_mem_nil, or_false] at hp
      rcases hp with rfl | rfl | rfl | rfl | rfl | rfl | rfl | rfl
      · exact ⟨.dead, rfl, .inl rfl⟩
      · exact ⟨_, rfl, .inr ⟨0, _, rfl, rfl, rfl⟩⟩
      · exact ⟨_, rfl, .inr ⟨1, _, rfl, rfl, rfl⟩⟩
      · exact ⟨.dead, rfl, .inl rfl⟩
      · exact ⟨_, rfl, .inr ⟨2, _, rfl, rfl, rfl⟩⟩
      · exact ⟨.dead, rfl, .inl rfl⟩
      · exact ⟨_, rfl, .inr ⟨3, _, hB2 _, rfl, rfl⟩⟩
      · exact ⟨_, rfl, .inr ⟨4, _, renB_app _ c (j + 1), rfl, rfl⟩⟩
    · simp only [List.mem_cons, List.not_mem_nil, or_false] at hp
      rcases hp with rfl | rfl | rfl
      · exact ⟨0, _, rfl, rfl, rfl⟩
      · exact ⟨1, _, rfl, rfl, rfl⟩
      · exact ⟨2, _, rfl, rfl, rfl⟩
    · rw [hb] at hQ
      exact hQ ψ w' a' (swapQ (swapLast (hval hb)) hB1 (ubQ c (j + 1)) (ub_blk (c + 1)) s1) s2 s3 s4 s5 (fxAQ s6)
  | false =>
    have e := upd_same hb
    refine code_runE pok callX_ok (l' := ((stL b ++ [(6, B6)]) ++ [(7, blk c)])) (ρ := rhoNQ) (live' := [(0, pt 4), (3, outS 7 c), (4, .int .i64 (.ofNat (j + 1 + 1)))]) (lx := .norm) (is := [1, 2, 4, 6, 7]) (ts := [0, 3, 4])
      (bs := [some (.cells [pt 2]), some (stR b), some (stQ b), some B6, some (blk c)]) (vs := [pt 4, outS 7 c, .int .i64 (.ofNat (j + 1 + 1))]) (okQ b hB1 _ (ub_blk c)) rfl rfl
      (fun u => by have := rQ j hj c hc false b B6 u; rw [e] at this; exact this) (by decide) rfl (fun p hp => ((okQ b hB1 _ (ub_blk c)).2 p hp).1) (fun p hp => ?_) (fun p hp => ?_) hst hφ hf fun ψ w' a' s1 s2 s3 s4 s5 s6 => ?_
    · simp only [rhoNQ, List.mem_cons, List.not_mem_nil, or_false] at hp
      rcases hp with rfl | rfl | rfl | rfl | rfl | rfl | rfl | rfl
      · exact ⟨.dead, rfl, .inl rfl⟩
      · exact ⟨_, rfl, .inr ⟨0, _, rfl, rfl, rfl⟩⟩
      · exact ⟨_, rfl, .inr ⟨1, _, rfl, rfl, rfl⟩⟩
      · exact ⟨.dead, rfl, .inl rfl⟩
      · exact ⟨_, rfl, .inr ⟨2, _, rfl, rfl, rfl⟩⟩
      · exact ⟨.dead, rfl, .inl rfl⟩
      · exact ⟨_, rfl, .inr ⟨3, _, hB2 _, rfl, rfl⟩⟩
      · exact ⟨_, rfl, .inr ⟨4, _, renB_blk _ c, rfl, rfl⟩⟩
    · simp only [List.mem_cons, List.not_mem_nil, or_false] at hp
      rcases hp with rfl | rfl | rfl
      · exact ⟨0, _, rfl, rfl, rfl⟩
      · exact ⟨1, _, by cases c <;> rfl, rfl, rfl⟩
      · exact ⟨2, _, rfl, rfl, rfl⟩
    · rw [hb] at hQ
      exact hQ ψ w' a' s1 s2 s3 s4 s5 (fxNQ s6)

theorem sessQ [SymV] [SymT] (b : Nat → Bool) {B6 : LB} (hB1 : ubB B6 ≤ 1) (hB2 : ∀ ρ, renB ρ B6 = some B6) (hval : ∀ j, j < 16 → b (j + 1) = true → SymV.val (100 + cn b j) = .int .i64 (.ofNat (j + 1))) {base : Nat} {φ : Phi} {w : World} {r : Value}
    (hst : St base 8 ((stL b ++ [(6, B6)]) ++ [(7, .dead)]) φ w) (hφ : φ 0 = some none) (hr : VR φ (pt 4) r) : Calls Tryz.prog 21 ⟨[r]⟩ w fun e w' => ∃ v ψ, e = .returned v ∧ St base 8 ((stL b ++ [(6, B6)]) ++ [(7, blk (cn b 16))]) ψ w' ∧ ψ 0 = some none ∧ VR ψ (outS 7 (cn b 16)) v ∧ Fx 7 φ ψ ∧ Below base w w' := by
  refine calls_flat (c := CQ) (t := 2) Tryz.func21 rfl rfl ?_
  rw [splitQ]
  refine wpL_append _ _ _ _ ?_
  refine code_runE pok callX_ok (l := ((stL b ++ [(6, B6)]) ++ [(7, blk 0)])) (l' := ((stL b ++ [(6, B6)]) ++ [(7, blk 0)])) (ρ := rhoNQ) (live := [(0, pt 4)]) (live' := [(0, pt 4), (3, outS 7 0), (4, .int .i64 (.ofNat 1))]) (lx := .norm) (is := [1, 2, 4, 6]) (ts := [0, 3, 4])
    (bs := [some (.cells [pt 2]), some (stR b), some (stQ b), some B6]) (vs := [pt 4, outS 7 0, .int .i64 (.ofNat 1)]) (okQ b hB1 _ (ub_blk 0)) rfl rfl
    (fun u => bQ b B6 u) (by decide) rfl (fun p hp => ((okQ b hB1 _ (ub_blk 0)).2 p hp).1) (fun p hp => ?_) (fun p hp => ?_) hst hφ (FL.start (nt := 17) (.cons _ _ [] [] hr .nil) (by decide) (by decide) [(0, pt 4)] (fun p hp => by simp only [List.mem_singleton] at hp; subst hp; rfl)) fun ψ1 w1 a1 s1 s2 s3 s4 s5 s6 => ?_
  · simp only [rhoNQ, List.mem_cons, List.not_mem_nil, or_false] at hp
    rcases hp with rfl | rfl | rfl | rfl | rfl | rfl | rfl | rfl
    · exact ⟨.dead, rfl, .inl rfl⟩
    · exact ⟨_, rfl, .inr ⟨0, _, rfl, rfl, rfl⟩⟩
    · exact ⟨_, rfl, .inr ⟨1, _, rfl, rfl, rfl⟩⟩
    · exact ⟨.dead, rfl, .inl rfl⟩
    · exact ⟨_, rfl, .inr ⟨2, _, rfl, rfl, rfl⟩⟩
    · exact ⟨.dead, rfl, .inl rfl⟩
    · exact ⟨_, rfl, .inr ⟨3, _, hB2 _, rfl, rfl⟩⟩
    · exact ⟨_, rfl, .inl rfl⟩
  · simp only [List.mem_cons, List.not_mem_nil, or_false] at hp
    rcases hp with rfl | rfl | rfl
    · exact ⟨0, _, rfl, rfl, rfl⟩
    · exact ⟨1, _, rfl, rfl, rfl⟩
    · exact ⟨2, _, rfl, rfl, rfl⟩
  have f1 := fxNQ s6
  refine wp_block (loop_down (Q := Exit.inBlock 0 (Exit.then (wpL Tryz.prog _ ((flat CQ).drop 4)) _)) (I := fun k a' w' => ∃ ψ : Phi, k ≤ 16 ∧ St base 8 ((stL b ++ [(6, B6)]) ++ [(7, blk (cn b (16 - k)))]) ψ w' ∧ ψ 0 = some none ∧ FL [(0, pt 4), (3, outS 7 (cn b (16 - k))), (4, .int .i64 (.ofNat (16 - k + 1)))] 17 ψ a' ∧ Fx 7 φ ψ ∧ Below base w w' ∧ a'.defers = []) ?_ ?_ 16 a1 w1
    ⟨ψ1, Nat.le_refl _, by rw [Nat.sub_self]; exact s1, s2, by rw [Nat.sub_self]; exact s3, f1, s4, s5⟩)
  · rintro k a2 w2 ⟨ψ, hk, q1, q2, q3, q4, q5, q6⟩
    refine stepQ b hB1 hB2 (j := 16 - (k + 1)) (c := cn b (16 - (k + 1))) (by omega) (cn_le b _) (hval _ (by omega)) q1 q2 q3 fun ψ' w' a' t1 t2 t3 t4 t5 t6 => ?_
    have e : 16 - k = 16 - (k + 1) + 1 := by omega
    refine ⟨ψ', by omega, ?_, t2, ?_, q4.trans t6, q5.trans t4, t5.trans q6⟩
    · rw [e]; exact t1
    · rw [e]
      rw [show 16 - (k + 1) + 1 + 1 = 16 - (k + 1) + 1 + 1 by omega]
      exact t3
  · rintro a2 w2 ⟨ψ, _, q1, q2, q3, q4, q5, q6⟩
    refine code_runE pok callX_ok (l' := ((stL b ++ [(6, B6)]) ++ [(7, blk (cn b 16))])) (ρ := rhoNQ) (live' := [(3, outS 7 (cn b 16))]) (lx := .exit 0) (is := [1, 2, 4, 6, 7]) (ts := [0, 3, 4])
      (bs := [some (.cells [pt 2]), some (stR b), some (stQ b), some B6, some (blk (cn b 16))]) (vs := [pt 4, outS 7 (cn b 16), .int .i64 (.ofNat 17)]) (okQ b hB1 _ (ub_blk _)) rfl rfl
      (fun u => eQ (cn b 16) (cn_le b 16) b B6 u) (by decide) rfl (fun p hp => ((okQ b hB1 _ (ub_blk _)).2 p hp).1) (fun p hp => ?_) (fun p hp => ?_) q1 q2 q3 fun ψ3 w3 a3 t1 t2 t3 t4 t5 t6 => ?_
    · simp only [rhoNQ, List.mem_cons, List.not_mem_nil, or_false] at hp
      rcases hp with rfl | rfl | rfl | rfl | rfl | rfl | rfl | rfl
      · exact ⟨.dead, rfl, .inl rfl⟩
      · exact ⟨_, rfl, .inr ⟨0, _, rfl, rfl, rfl⟩⟩
      · exact ⟨_, rfl, .inr ⟨1, _, rfl, rfl, rfl⟩⟩
      · exact ⟨.dead, rfl, .inl rfl⟩
      · exact ⟨_, rfl, .inr ⟨2, _, rfl, rfl, rfl⟩⟩
      · exact ⟨.dead, rfl, .inl rfl⟩
      · exact ⟨_, rfl, .inr ⟨3, _, hB2 _, rfl, rfl⟩⟩
      · exact ⟨_, rfl, .inr ⟨4, _, renB_blk _ _, rfl, rfl⟩⟩
    · simp only [List.mem_singleton] at hp
      subst hp
      exact ⟨1, _, by generalize cn b 16 = c; cases c <;> rfl, rfl, rfl⟩
    · show wpL Tryz.prog _ ((flat CQ).drop 4) a3 w3
      refine code_runE pok callX_ok (l' := ((stL b ++ [(6, B6)]) ++ [(7, blk (cn b 16))])) (ρ := rhoNQ) (live' := [(2, outS 7 (cn b 16))]) (lx := .ret) (is := [1, 2, 4, 6, 7]) (ts := [2])
        (bs := [some (.cells [pt 2]), some (stR b), some (stQ b), some B6, some (blk (cn b 16))]) (vs := [outS 7 (cn b 16)]) (okQ b hB1 _ (ub_blk _)) rfl rfl
        (fun u => pQ (cn b 16) (cn_le b 16) b B6 u) (by decide) rfl (fun p hp => ((okQ b hB1 _ (ub_blk _)).2 p hp).1) (fun p hp => ?_) (fun p hp => ?_) t1 t2 t3 fun ψ4 w4 a4 v1 v2 v3 v4 v5 v6 => ?_
      · simp only [rhoNQ, List.mem_cons, List.not_mem_nil, or_false] at hp
        rcases hp with rfl | rfl | rfl | rfl | rfl | rfl | rfl | rfl
        · exact ⟨.dead, rfl, .inl rfl⟩
        · exact ⟨_, rfl, .inr ⟨0, _, rfl, rfl, rfl⟩⟩
        · exact ⟨_, rfl, .inr ⟨1, _, rfl, rfl, rfl⟩⟩
        · exact ⟨.dead, rfl, .inl rfl⟩
        · exact ⟨_, rfl, .inr ⟨2, _, rfl, rfl, rfl⟩⟩
        · exact ⟨.dead, rfl, .inl rfl⟩
        · exact ⟨_, rfl, .inr ⟨3, _, hB2 _, rfl, rfl⟩⟩
        · exact ⟨_, rfl, .inr ⟨4, _, renB_blk _ _, rfl, rfl⟩⟩
      · simp only [List.mem_singleton] at hp
        subst hp
        exact ⟨0, _, by generalize cn b 16 = c; cases c <;> rfl, rfl, rfl⟩
      · exact ⟨v5.trans (t5.trans q6), _, ψ4, rfl, v1, v2, v3.val (2, outS 7 (cn b 16)) (by simp), (q4.trans (fxNQ t6)).trans (fxNQ v6), (q5.trans t4).trans v4⟩
end Go.Proofs.YtogdmfknfkcjdaaGreat.Rs
