/- The law with 1 sessions answers true where its runs do. -/
import Derived.Test.YtgddinljekkhdaaGreatXH0
set_option linter.unusedSimpArgs false
set_option linter.unusedVariables false
namespace Go.Proofs.YtgddinljekkhdaaGreat.U
open Go Go.Eng
set_option maxRecDepth 100000
set_option maxHeartbeats 0
abbrev bv0_0 (x : Nat) : Value := Value.int .u32 ((x / 16777216 : Nat) : Int)
abbrev bv0_1 (x : Nat) : Value := Value.int .u8 ((x / 16777216 % 256 : Nat) : Int)
abbrev bv0_2 (x : Nat) : Value := Value.int .u32 ((x / 65536 : Nat) : Int)
abbrev bv0_3 (x : Nat) : Value := Value.int .u8 ((x / 65536 % 256 : Nat) : Int)
abbrev bv0_4 (x : Nat) : Value := Value.int .u32 ((x / 256 : Nat) : Int)
abbrev bv0_5 (x : Nat) : Value := Value.int .u8 ((x / 256 % 256 : Nat) : Int)
abbrev bv0_6 (x : Nat) : Value := Value.int .u8 ((x % 256 : Nat) : Int)
theorem new0_F {G m r : Value} {k : Nat} (hk : k < 64) {ss ls : List Value} (h : flatR (evQ qN0 KL N0 5 0 ⟨setT (TM.lf none) 0 [G, m, r, Value.int .i64 (.ofNat (Nat.succ k)), iv 65536], TM.lf none⟩) = some (ss, ls)) : c7_3_c.F [G, m, r, Value.int .i64 (.ofNat (Nat.succ k)), iv 65536] [] = some (ss, ls) := by
  have e1 : ∀ a b, CFn.F (P := Tryz.prog) [c61_c, c62_c] (c7_3_f 0 c7_3_z0) [G, m, r, Value.int .i64 (.ofNat (Nat.succ k)), iv 65536] [] = some (a, b) → flatR (some (a, b)) = some (ss, ls) → c7_3_c.F [G, m, r, Value.int .i64 (.ofNat (Nat.succ k)), iv 65536] [] = some (ss, ls) := by
    intro a b h1 h2
    have h3 : c7_3_c.F [G, m, r, Value.int .i64 (.ofNat (Nat.succ k)), iv 65536] [] = flatR (CFn.F (P := Tryz.prog) [c61_c, c62_c] (c7_3_f 0 c7_3_z0) [G, m, r, Value.int .i64 (.ofNat (Nat.succ k)), iv 65536] []) := by kernel_rfl
    rw [h3, h1]
    exact h2
  cases hq : evQ qN0 KL N0 5 0 ⟨setT (TM.lf none) 0 [G, m, r, Value.int .i64 (.ofNat (Nat.succ k)), iv 65536], TM.lf none⟩ with
  | none => rw [hq] at h; cases h
  | some y =>
    obtain ⟨c, e⟩ := y
    rw [hq] at h
    refine e1 c e ?_ h
    have qz0 : QE.of ⟨setT (TM.lf none) 0 [G, m, r, Value.int .i64 (.ofNat (Nat.succ k)), iv 65536], TM.lf none⟩ (envL [G, m, r, Value.int .i64 (.ofNat (Nat.succ k)), iv 65536] []) :=
      ⟨fun j v hj hg => nthV_none_of j v hj hg (by show 5 ≤ 65536; omega), fun j v hj hg => by rw [TM.get_lf] at hg; cases hg⟩
    have h4 := evQ_ok (K' := CFn.K (P := Tryz.prog) (qN0.map QC.c) (c7_3_f 0 c7_3_z0) 0) KL_ok N0 5 0 _ _ _ qz0 hq
    refine CFn.flat _ rfl ?_
    refine evK_c_mono (cs := [c61_c, c62_c]) rfl ?_ h4
    intro a b h5
    refine Eq.trans ?_ h5
    refine Eq.trans (evK_t false (by
      show sev (.bin .lss) [updL _ 5 a 3, _] = _
      rw [updL_lt (by omega)]
      exact (cmp_lss .i64 (Nat.succ k) 1).trans (by rw [decide_eq_false (by omega)]))) ?_
    rw [cond_false]
    refine Eq.trans (evK_t false (by
      show sev (.bin .gtr) [updL _ 5 a 3, _] = _
      rw [updL_lt (by omega)]
      exact (cmp_gtr .i64 (Nat.succ k) 64).trans (by rw [decide_eq_false (by omega)]))) ?_
    rw [cond_false]
    refine Eq.trans (evK_t false (by
      show sev (.bin .lss) [updL _ 5 a 4, _] = _
      rw [updL_lt (by omega)]
      exact (cmp_lss .i64 65536 1).trans (by rw [decide_eq_false (by omega)]))) ?_
    rw [cond_false]
    refine Eq.trans (evK_t false (by
      show sev (.bin .gtr) [updL _ 5 a 4, _] = _
      rw [updL_lt (by omega)]
      exact (cmp_gtr .i64 65536 65536).trans (by rw [decide_eq_false (by omega)]))) ?_
    rw [cond_false]
    rfl
theorem bad0 {x : Nat} (hx : x < 4294967296) (h2 : x = 0 ∨ 2048 < x) {st ls : List Value} (hst : st.length = 80) (hls : ls.length ≤ 65536) {rs : List Value × List Value} (env : Nat → Value) (hst2 : st = ((svs 39 80) : List Value).map (den env))
    (h : flatR (evQ qD0 KL F0 103 4 ⟨setT (TM.lf none) 0 (st ++ [bv0_1 x, bv0_3 x, bv0_5 x, bv0_6 x]), setT (TM.lf none) 0 ls⟩) = some rs) : c18_23_c.F (st ++ [bv0_1 x, bv0_3 x, bv0_5 x, bv0_6 x]) ls = some rs := by
  have hx4 : (((((x / 16777216 % 256) * 256 + (x / 65536 % 256)) * 256 + (x / 256 % 256)) * 256 + (x % 256)) : Nat) = x := by omega
  have e1 : ∀ a, CFn.F (P := Tryz.prog) [c63_c, c94_c] (c18_23_f 0 c18_23_z0) (st ++ [bv0_1 x, bv0_3 x, bv0_5 x, bv0_6 x]) ls = some a → flatR (some a) = some rs → c18_23_c.F (st ++ [bv0_1 x, bv0_3 x, bv0_5 x, bv0_6 x]) ls = some rs := by
    intro a h1 h2
    have h3 : ∀ u v, c18_23_c.F u v = flatR (CFn.F (P := Tryz.prog) [c63_c, c94_c] (c18_23_f 0 c18_23_z0) u v) := by intro u v; kernel_rfl
    rw [h3, h1]
    exact h2
  cases hq : evQ qD0 KL F0 103 4 ⟨setT (TM.lf none) 0 (st ++ [bv0_1 x, bv0_3 x, bv0_5 x, bv0_6 x]), setT (TM.lf none) 0 ls⟩ with
  | none => rw [hq] at h; cases h
  | some c =>
    rw [hq] at h
    refine e1 c ?_ h
    have hl : (st ++ [bv0_1 x, bv0_3 x, bv0_5 x, bv0_6 x]).length = 84 := by rw [List.length_append, hst]; rfl
    have qz0 : QE.of ⟨setT (TM.lf none) 0 (st ++ [bv0_1 x, bv0_3 x, bv0_5 x, bv0_6 x]), setT (TM.lf none) 0 ls⟩ ⟨updL (nthV (st ++ [bv0_1 x, bv0_3 x, bv0_5 x, bv0_6 x]) (Value.int .i64 0)) 84 [byS (x / 16777216 % 256) (x / 65536 % 256) (x / 256 % 256) (x % 256), Value.int .i64 4, Value.int .i64 4, Value.int .u8 (((x / 16777216 % 256) : Nat) : Int), Value.int .u64 (((x / 16777216 % 256) : Nat) : Int), Value.int .u64 (((x / 16777216 % 256) : Nat) : Int), Value.int .u64 (((x / 16777216 % 256) * 256 : Nat) : Int), Value.int .u8 (((x / 65536 % 256) : Nat) : Int), Value.int .u64 (((x / 65536 % 256) : Nat) : Int), Value.int .u64 (((x / 16777216 % 256) * 256 + (x / 65536 % 256) : Nat) : Int), Value.int .u64 ((((x / 16777216 % 256) * 256 + (x / 65536 % 256)) * 256 : Nat) : Int), Value.int .u8 (((x / 256 % 256) : Nat) : Int), Value.int .u64 (((x / 256 % 256) : Nat) : Int), Value.int .u64 ((((x / 16777216 % 256) * 256 + (x / 65536 % 256)) * 256 + (x / 256 % 256) : Nat) : Int), Value.int .u64 (((((x / 16777216 % 256) * 256 + (x / 65536 % 256)) * 256 + (x / 256 % 256)) * 256 : Nat) : Int), Value.int .u8 (((x % 256) : Nat) : Int), Value.int .u64 (((x % 256) : Nat) : Int), Value.int .u64 (((((x / 16777216 % 256) * 256 + (x / 65536 % 256)) * 256 + (x / 256 % 256)) * 256 + (x % 256) : Nat) : Int), Value.int .i64 ((x : Nat) : Int)], nthV ls (.slice none 0 0)⟩ :=
      ⟨QE_low (fun j hj => updL_lt (by omega)) (by omega), fun j v hj hg => nthV_none_of j v hj hg hls⟩
    have h4 := evQ_ok (K' := CFn.K (P := Tryz.prog) (qD0.map QC.c) (c18_23_f 0 c18_23_z0) 0) KL_ok F0 103 4 _ _ _ qz0 hq
    subst hst2
    refine CFn.flat _ rfl ?_
    refine Eq.trans (evK_d (byS (x / 16777216 % 256) (x / 65536 % 256) (x / 256 % 256) (x % 256)) (by_sev _ _ _ _)) ?_
    refine Eq.trans (evK_d (Value.int .i64 4) (rfl)) ?_
    refine Eq.trans (evK_d (Value.int .i64 4) (rfl)) ?_
    refine Eq.trans (evK_t true rfl) ?_
    rw [cond_true]
    refine Eq.trans (evK_d (Value.int .u8 (((x / 16777216 % 256) : Nat) : Int)) (at0 (by omega))) ?_
    refine Eq.trans (evK_d (Value.int .u64 (((x / 16777216 % 256) : Nat) : Int)) (conv64u _ _ (by omega))) ?_
    refine Eq.trans (evK_d (Value.int .u64 (((x / 16777216 % 256) : Nat) : Int)) (or0 (by omega))) ?_
    refine Eq.trans (evK_d (Value.int .u64 (((x / 16777216 % 256) * 256 : Nat) : Int)) (shl8' (by omega))) ?_
    refine Eq.trans (evK_d (Value.int .u8 (((x / 65536 % 256) : Nat) : Int)) (at1 (by omega))) ?_
    refine Eq.trans (evK_d (Value.int .u64 (((x / 65536 % 256) : Nat) : Int)) (conv64u _ _ (by omega))) ?_
    refine Eq.trans (evK_d (Value.int .u64 (((x / 16777216 % 256) * 256 + (x / 65536 % 256) : Nat) : Int)) (or8' (by omega) (by omega))) ?_
    refine Eq.trans (evK_d (Value.int .u64 ((((x / 16777216 % 256) * 256 + (x / 65536 % 256)) * 256 : Nat) : Int)) (shl8' (by omega))) ?_
    refine Eq.trans (evK_d (Value.int .u8 (((x / 256 % 256) : Nat) : Int)) (at2 (by omega))) ?_
    refine Eq.trans (evK_d (Value.int .u64 (((x / 256 % 256) : Nat) : Int)) (conv64u _ _ (by omega))) ?_
    refine Eq.trans (evK_d (Value.int .u64 ((((x / 16777216 % 256) * 256 + (x / 65536 % 256)) * 256 + (x / 256 % 256) : Nat) : Int)) (or8' (by omega) (by omega))) ?_
    refine Eq.trans (evK_d (Value.int .u64 (((((x / 16777216 % 256) * 256 + (x / 65536 % 256)) * 256 + (x / 256 % 256)) * 256 : Nat) : Int)) (shl8' (by omega))) ?_
    refine Eq.trans (evK_d (Value.int .u8 (((x % 256) : Nat) : Int)) (at3 (by omega))) ?_
    refine Eq.trans (evK_d (Value.int .u64 (((x % 256) : Nat) : Int)) (conv64u _ _ (by omega))) ?_
    refine Eq.trans (evK_d (Value.int .u64 (((((x / 16777216 % 256) * 256 + (x / 65536 % 256)) * 256 + (x / 256 % 256)) * 256 + (x % 256) : Nat) : Int)) (or8' (by omega) (by omega))) ?_
    refine Eq.trans (evK_d (Value.int .i64 ((x : Nat) : Int)) (by
      show sev (.conv .i64) [Value.int .u64 ((((((x / 16777216 % 256) * 256 + (x / 65536 % 256)) * 256 + (x / 256 % 256)) * 256 + (x % 256)) : Nat) : Int)] = _
      rw [hx4]
      exact conv64i _ _ (by omega))) ?_
    rcases h2 with h0 | h0
    · refine Eq.trans (evK_t true ((cmp_eql .i64 x 0).trans (by rw [decide_eq_true h0]))) ?_
      rw [cond_true]
      exact h4
    · refine Eq.trans (evK_t false ((cmp_eql .i64 x 0).trans (by rw [decide_eq_false (by omega)]))) ?_
      rw [cond_false]
      refine Eq.trans (evK_t true ((cmp_gtr .i64 x 2048).trans (by rw [decide_eq_true h0]))) ?_
      rw [cond_true]
      exact h4
theorem way0 {x : Nat} (hx : x < 4294967296) (h01 : x = 0 ∨ 2048 < x) {q : QE} {env : Env} (hq : QE.of q env) (e1 : env.s 1 = Value.int .u32 (x : Int)) (h : kD0 (bv0_0 x) (bv0_1 x) (bv0_2 x) (bv0_3 x) (bv0_4 x) (bv0_5 x) (bv0_6 x) q = some ([tt], [])) : evK d0 (CFn.K d0 t0_f 0) E0 119 10 env = some ([tt], []) := by
  have h1 := gLs_ok (f := den env.s) (fun hh => gS_ok hq hh) _ h
  have h2 := gLs_ok (f := denX env.s env.l) (fun hh => gX_ok hq hh) _ h1
  cases hr : flatR (evQ qD0 KL F0 103 4 ⟨setT (TM.lf none) 0 (((svs 39 80) : List Value).map (den env.s) ++ [bv0_1 x, bv0_3 x, bv0_5 x, bv0_6 x]), setT (TM.lf none) 0 (([fv 6, fv 7, fv 8, fv 9] : List Value).map (denX env.s env.l))⟩) with
  | none =>
    have h2 : kC0 (bv0_0 x) (bv0_1 x) (bv0_2 x) (bv0_3 x) (bv0_4 x) (bv0_5 x) (bv0_6 x) q (flatR (evQ qD0 KL F0 103 4 ⟨setT (TM.lf none) 0 (((svs 39 80) : List Value).map (den env.s) ++ [bv0_1 x, bv0_3 x, bv0_5 x, bv0_6 x]), setT (TM.lf none) 0 (([fv 6, fv 7, fv 8, fv 9] : List Value).map (denX env.s env.l))⟩)) = some ([tt], []) := h2
    rw [hr] at h2; cases h2
  | some y =>
    obtain ⟨ss, ls⟩ := y
    have h2 : kC0 (bv0_0 x) (bv0_1 x) (bv0_2 x) (bv0_3 x) (bv0_4 x) (bv0_5 x) (bv0_6 x) q (flatR (evQ qD0 KL F0 103 4 ⟨setT (TM.lf none) 0 (((svs 39 80) : List Value).map (den env.s) ++ [bv0_1 x, bv0_3 x, bv0_5 x, bv0_6 x]), setT (TM.lf none) 0 (([fv 6, fv 7, fv 8, fv 9] : List Value).map (denX env.s env.l))⟩)) = some ([tt], []) := h2
    rw [hr] at h2
    have hF := bad0 hx h01 (st := ((svs 39 80) : List Value).map (den env.s)) (ls := ([fv 6, fv 7, fv 8, fv 9] : List Value).map (denX env.s env.l)) (by rw [List.length_map]; rfl) (by rw [List.length_map]; decide) env.s rfl hr
    have h2 : (bif Nat.ble (126 + ss.length) 65536 && Nat.ble (10 + ls.length) 65536 then evQ q0 KL C0 178 14 ⟨setT (setT q.s 119 [bv0_0 x, bv0_1 x, bv0_2 x, bv0_3 x, bv0_4 x, bv0_5 x, bv0_6 x]) 126 ss, setT q.l 10 ls⟩ else none) = some ([tt], []) := h2
    cases hb : Nat.ble (126 + ss.length) 65536 && Nat.ble (10 + ls.length) 65536 with
    | false => rw [hb] at h2; cases h2
    | true =>
      rw [hb, cond_true] at h2
      rw [Bool.and_eq_true] at hb
      have qz1 : QE.of ⟨setT (setT q.s 119 [bv0_0 x, bv0_1 x, bv0_2 x, bv0_3 x, bv0_4 x, bv0_5 x, bv0_6 x]) 126 ss, setT q.l 10 ls⟩ ⟨updL (updL env.s 119 [bv0_0 x, bv0_1 x, bv0_2 x, bv0_3 x, bv0_4 x, bv0_5 x, bv0_6 x]) 126 ss, updL env.l 10 ls⟩ :=
        ⟨setT_of ss (setT_of [bv0_0 x, bv0_1 x, bv0_2 x, bv0_3 x, bv0_4 x, bv0_5 x, bv0_6 x] hq.1 119 (by show 119 + 7 ≤ 65536; omega)) 126 (Nat.le_of_ble_eq_true hb.1), setT_of ls hq.2 10 (Nat.le_of_ble_eq_true hb.2)⟩
      have h4 := evQ_ok (K' := CFn.K (P := Tryz.prog) (q0.map QC.c) t0_f 0) KL_ok C0 178 14 _ _ _ qz1 h2
      rw [q0_map] at h4
      have sh : ∀ (e : Env) (k m : Nat), e.s 1 = Value.int .u32 (x : Int) → k ≤ 32 → m = 2 ^ k → sev (.bin .shr) [e.s 1, Value.int .u64 (k : Int)] = some (Value.int .u32 ((x / m : Nat) : Int)) := fun e k m he hk hm => by rw [he]; exact shr_k x k m hk hm
      refine Eq.trans (evK_d (bv0_0 x) (sh env 24 16777216 e1 (by omega) (by decide))) ?_
      refine Eq.trans (evK_d (bv0_1 x) (conv8 .u32 (x / 16777216))) ?_
      refine Eq.trans (evK_d (bv0_2 x) (sh env 16 65536 e1 (by omega) (by decide))) ?_
      refine Eq.trans (evK_d (bv0_3 x) (conv8 .u32 (x / 65536))) ?_
      refine Eq.trans (evK_d (bv0_4 x) (sh env 8 256 e1 (by omega) (by decide))) ?_
      refine Eq.trans (evK_d (bv0_5 x) (conv8 .u32 (x / 256))) ?_
      refine Eq.trans (evK_d (bv0_6 x) (by
        show sev (.conv .u8) [env.s 1] = _
        rw [e1]
        exact conv8 .u32 x)) ?_
      have ea : ((svs 39 80 ++ [sv 120, sv 122, sv 124, sv 125]) : List Value).map (den (updL env.s 119 [bv0_0 x, bv0_1 x, bv0_2 x, bv0_3 x, bv0_4 x, bv0_5 x, bv0_6 x])) = ((svs 39 80) : List Value).map (den env.s) ++ [bv0_1 x, bv0_3 x, bv0_5 x, bv0_6 x] := by kernel_rfl
      have eb : ([fv 6, fv 7, fv 8, fv 9] : List Value).map (denX env.s env.l) = ([fv 6, fv 7, fv 8, fv 9] : List Value).map (denX (updL env.s 119 [bv0_0 x, bv0_1 x, bv0_2 x, bv0_3 x, bv0_4 x, bv0_5 x, bv0_6 x]) env.l) := by kernel_rfl
      refine Eq.trans (evK_c ss ls rfl (Eq.trans (congrArg (fun a => c18_23_c.F a _) ea) (Eq.trans (congrArg (fun b => c18_23_c.F _ b) eb.symm) hF))) ?_
      exact h4
theorem rest0 {x : Nat} (hx : x < 4294967296) (cl : Bool) {q : QE} {env : Env} (hq : QE.of q env) (e1 : env.s 1 = Value.int .u32 (x : Int)) (e2 : env.s 2 = .bool cl) (h : al0 (bv0_0 x) (bv0_1 x) (bv0_2 x) (bv0_3 x) (bv0_4 x) (bv0_5 x) (bv0_6 x) q = some true) : evK d0 (CFn.K d0 t0_f 0) R0 119 10 env = some ([tt], []) := by
  unfold al0 at h
  cases hA : isT (kA0 q) with
  | false => rw [hA] at h; cases h
  | true =>
    rw [hA, cond_true] at h
    cases hB : isT (kB0 q) with
    | false => rw [hB] at h; cases h
    | true =>
      rw [hB, cond_true] at h
      cases hD : isT (kD0 (bv0_0 x) (bv0_1 x) (bv0_2 x) (bv0_3 x) (bv0_4 x) (bv0_5 x) (bv0_6 x) q) with
      | false => rw [hD] at h; cases h
      | true =>
        have gA := evQ_ok (K' := CFn.K (P := Tryz.prog) (q0.map QC.c) t0_f 0) KL_ok A0 119 10 q env _ hq (isT_eq hA)
        have gB := evQ_ok (K' := CFn.K (P := Tryz.prog) (q0.map QC.c) t0_f 0) KL_ok B0 119 10 q env _ hq (isT_eq hB)
        rw [q0_map] at gA gB
        have tr : sev .truth [env.s 2] = some (.bool cl) := by rw [e2]; rfl
        refine Eq.trans (evK_t (decide (0 < x)) (by
          show sev (.bin .gtr) [env.s 1, Value.int .u32 (.ofNat 0)] = _
          rw [e1]
          exact cmp_gtr .u32 x 0)) ?_
        by_cases h0 : 0 < x
        · rw [decide_eq_true h0, cond_true]
          refine Eq.trans (evK_t (decide (x ≤ 2048)) (by
            show sev (.bin .leq) [env.s 1, Value.int .u32 (.ofNat 2048)] = _
            rw [e1]
            exact cmp_leq .u32 x 2048)) ?_
          by_cases h3 : x ≤ 2048
          · rw [decide_eq_true h3, cond_true]
            refine Eq.trans (evK_t cl tr) ?_
            cases cl with
            | false => exact gB
            | true => exact gA
          · rw [decide_eq_false h3, cond_false]
            refine Eq.trans (evK_t cl tr) ?_
            cases cl with
            | false => exact way0 hx (.inr (by omega)) hq e1 (isT_eq hD)
            | true => exact gA
        · rw [decide_eq_false h0, cond_false]
          refine Eq.trans (evK_t cl tr) ?_
          cases cl with
          | false => exact way0 hx (.inl (by omega)) hq e1 (isT_eq hD)
          | true => exact gA
theorem gr0 : P0 Lf R0 = Tr.graft R0 (P0 Unit (.lf ())) := rfl
theorem en0 : Tr.endN d0 (P0 Unit (.lf ())) 26 = 119 := by kernel_rfl
theorem em0 : Tr.endM d0 (P0 Unit (.lf ())) 3 = 10 := by kernel_rfl
theorem law0 {z : Int} {x : Nat} (hx : x < 4294967296) (cl : Bool) {G m r : Value} {k : Nat} (hk : k < 64) (hgo : go0 G m r (Value.int .i64 (.ofNat (Nat.succ k))) (bv0_0 x) (bv0_1 x) (bv0_2 x) (bv0_3 x) (bv0_4 x) (bv0_5 x) (bv0_6 x) = some true)
    (hSS : c6v0_c.F [Value.int .i64 z, iv 65536] [] = some ([iv 0, ff, G, ff, iv 67108864, ff, m, r, Value.int .i64 (.ofNat (Nat.succ k)), iv 65536], [])) : t0_c.F [Value.int .i64 z, Value.int .u32 (x : Int), .bool cl] [] = some ([tt], []) := by
  have h3 : ∀ u v, t0_c.F u v = CFn.F (P := Tryz.prog) d0 t0_f u v := by intro u v; kernel_rfl
  rw [h3]
  refine CFn.flat _ rfl ?_
  refine Eq.trans (evK_c _ _ rfl hSS) ?_
  unfold go0 at hgo
  cases hN : flatR (evQ qN0 KL N0 5 0 ⟨setT (TM.lf none) 0 [G, m, r, Value.int .i64 (.ofNat (Nat.succ k)), iv 65536], TM.lf none⟩) with
  | none => rw [hN] at hgo; cases hgo
  | some y =>
    obtain ⟨ss, ls⟩ := y
    rw [hN] at hgo
    have hgo : (bif Nat.ble (13 + ss.length) 65536 && Nat.ble (0 + ls.length) 65536 then evQ q0 (fun (_ : Unit) q => al0 (bv0_0 x) (bv0_1 x) (bv0_2 x) (bv0_3 x) (bv0_4 x) (bv0_5 x) (bv0_6 x) q) (P0 Unit (.lf ())) 26 3 ⟨setT (TM.lf none) 13 ss, setT (TM.lf none) 0 ls⟩ else none) = some true := hgo
    cases hb : Nat.ble (13 + ss.length) 65536 && Nat.ble (0 + ls.length) 65536 with
    | false => rw [hb] at hgo; cases hgo
    | true =>
      rw [hb, cond_true] at hgo
      rw [Bool.and_eq_true] at hb
      refine Eq.trans (evK_c ss ls rfl (new0_F hk hN)) ?_
      have vac : ∀ (e : Nat → Value) j v, j < 65536 → (TM.lf none : TM Value).get j = some v → e j = v := fun e j v _ hg => by rw [TM.get_lf] at hg; cases hg
      rw [gr0]
      refine Eq.trans (graft_eq (P0 Unit (.lf ())) 26 3 119 10 _ rfl en0 em0) ?_
      rw [← q0_map]
      refine evQ_ok2 (cs := q0) (r := true) 3 (nthV [Value.int .i64 z, Value.int .u32 (x : Int), .bool cl] (Value.int .i64 0)) ?_ (P0 Unit (.lf ())) 26 3 _ _ (by omega) ?_ ⟨setT_of ss (vac _) 13 (Nat.le_of_ble_eq_true hb.1), setT_of ls (vac _) 0 (Nat.le_of_ble_eq_true hb.2)⟩ hgo
      · intro _ q env hq hbs ha
        rw [q0_map]
        exact rest0 hx cl hq (hbs 1 (by omega)) (hbs 2 (by omega)) ha
      · intro j hj
        show updL (updL _ 3 _) 13 ss j = _
        rw [updL_lt (by omega), updL_lt (by omega)]
        rfl
end Go.Proofs.YtgddinljekkhdaaGreat.U
