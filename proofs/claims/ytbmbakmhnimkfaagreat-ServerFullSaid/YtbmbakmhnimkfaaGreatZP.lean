/- ServerFull: the law answers true. -/
import Derived.Test.YtbmbakmhnimkfaaGreatZO0
import Derived.Test.YtbmbakmhnimkfaaGreatZO1
import Derived.Test.YtbmbakmhnimkfaaGreatZO2
import Derived.Test.YtbmbakmhnimkfaaGreatZO3
import Derived.Test.YtbmbakmhnimkfaaGreatZO4
import Derived.Test.YtbmbakmhnimkfaaGreatZO5
import Derived.Test.YtbmbakmhnimkfaaGreatZO6
import Derived.Test.YtbmbakmhnimkfaaGreatZO7
import Derived.Test.YtbmbakmhnimkfaaGreatZD
import Derived.Test.YtbmbakmhnimkfaaGreatEngX5
set_option linter.unusedSimpArgs false
set_option linter.unusedVariables false
namespace Go.Proofs.YtbmbakmhnimkfaaGreat.U
open Go Go.Eng Go.RowKit
set_option maxRecDepth 100000
section
variable {P : Program} {α β : Type} {cs : List (Ctr P)} {K : α → Env → Option β}
def chn (v : Value) : Nat → List (Tr α) → Tr α
  | _, [] => .x
  | i, A :: r => .t .eqi [v, .int .i64 (.ofNat i)] A (chn v (i + 1) r)
theorem evK_chn {v : Value} {n m : Nat} {env : Env} {a : Nat} (hv : den env.s v = .int .i64 (a : Int)) : ∀ (l : List (Tr α)) (i k : Nat) (A : Tr α), l[k]? = some A → a = i + k → evK cs K (chn v i l) n m env = evK cs K A n m env
  | [], _, _, _, h, _ => by simp at h
  | B :: r, i, 0, A, h, ha => by
    have : B = A := by simpa using h
    subst this
    refine evK_tT (q := .eqi) (xs := [v, .int .i64 (.ofNat i)]) ?_ rfl
    show sev .eqi [den env.s v, .int .i64 (.ofNat i)] = _
    rw [hv]
    exact (eqi_n a i).trans (by rw [decide_eq_true (by omega)])
  | B :: r, i, k + 1, A, h, ha => by
    refine (evK_tF (q := .eqi) (xs := [v, .int .i64 (.ofNat i)]) ?_ rfl).trans (evK_chn hv r (i + 1) k A (by simpa using h) (by omega))
    show sev .eqi [den env.s v, .int .i64 (.ofNat i)] = _
    rw [hv]
    exact (eqi_n a i).trans (by rw [decide_eq_false (by omega)])
end
def lwSub (g : Bool) : Sub := ⟨[iv 0, ff, gv g, ff, iv 67108864, ff, sv 23, sv 30, sv 1], [], [], [], true⟩
def lwIn (j : Nat) (g : Bool) (b : Nat) : List (Tr Lf) := (List.range 8).map fun t => rv j (8 * b + t) (lwSub g)
def lwOut (j : Nat) (g : Bool) : List (Tr Lf) := (List.range 4).map fun b => chn (sv 16) 1 (lwIn j g b)
theorem ev_rv {P : Program} {cs : List (Ctr P)} {F : CFn} {k j i n m : Nat} {a : Sub} {env : Env} : evK cs (F.K cs k) (rv j i a) n m env = bif Nat.beq j i then some (a.ss.map (den env.s), a.ls.map fun y => denX env.s env.l y.1) else none := by
  unfold rv
  cases Nat.beq j i <;> rfl
def lwAnsV (g : Bool) (m r : Nat) : List Value := [iv 0, ff, gv g, ff, iv 67108864, ff, .int .i64 ((m + 1 : Nat) : Int), .int .i64 ((r + 1 : Nat) : Int), iv 65536]
/-- what a setup's number says -/
structure Dg (z : Int) where
  b : Nat
  t : Nat
  m : Nat
  r : Nat
  g : Bool
  hb : b < 4
  ht : t < 8
  hm : m < 6
  hr : r < 4
  h : ∀ (j : Nat) (zp : Pat), CFn.F (P := Tryz.prog) [] (c32_f j zp) [.int .i64 z, iv 65536] [] = bif Nat.beq j (8 * b + t) then some (lwAnsV g m r, []) else none
theorem dg (z : Int) : Nonempty (Dg z) := by
  obtain ⟨x0, b0, h0⟩ := conv_u z
  obtain ⟨q0, c0, e0⟩ := quo_u x0 4 (by omega)
  obtain ⟨p0, d0, f0⟩ := mul_u q0 6364136223846793005
  obtain ⟨x1, b1, h1⟩ := add_u p0 (x0 % 1000003)
  obtain ⟨q1, c1, e1⟩ := quo_u x1 8 (by omega)
  obtain ⟨p1, d1, f1⟩ := mul_u q1 6364136223846793005
  obtain ⟨x2, b2, h2⟩ := add_u p1 (x1 % 1000003)
  obtain ⟨q2, c2, e2⟩ := quo_u x2 6 (by omega)
  obtain ⟨p2, d2, f2⟩ := mul_u q2 6364136223846793005
  obtain ⟨x3, b3, h3⟩ := add_u p2 (x2 % 1000003)
  obtain ⟨q3, c3, e3⟩ := quo_u x3 4 (by omega)
  obtain ⟨p3, d3, f3⟩ := mul_u q3 6364136223846793005
  obtain ⟨x4, b4, h4⟩ := add_u p3 (x3 % 1000003)
  obtain ⟨q4, c4, e4⟩ := quo_u x4 2 (by omega)
  obtain ⟨p4, d4, f4⟩ := mul_u q4 6364136223846793005
  obtain ⟨x5, b5, h5⟩ := add_u p4 (x4 % 1000003)
  obtain ⟨g, hg⟩ : ∃ g : Bool, g = decide (x4 % 2 = 1) := ⟨_, rfl⟩
  refine ⟨⟨x0 % 4, x1 % 8, x2 % 6, x3 % 4, g, by omega, by omega, by omega, by omega, ?_⟩⟩
  intro j zp
  refine Eq.trans (flat_eq _ rfl) ?_
  refine Eq.trans (evK_d _ h0) ?_
  refine Eq.trans (evK_d _ (rem_u x0 4 (by omega))) ?_
  refine Eq.trans (evK_d _ e0) ?_
  refine Eq.trans (evK_d _ f0) ?_
  refine Eq.trans (evK_d _ (rem_u x0 1000003 (by omega))) ?_
  refine Eq.trans (evK_d _ h1) ?_
  refine Eq.trans (evK_d _ (conv64i _ (x0 % 4) (by omega))) ?_
  refine Eq.trans (evK_d _ (add1_i (x0 % 4) (by omega))) ?_
  refine Eq.trans (evK_d _ (rem_u x1 8 (by omega))) ?_
  refine Eq.trans (evK_d _ e1) ?_
  refine Eq.trans (evK_d _ f1) ?_
  refine Eq.trans (evK_d _ (rem_u x1 1000003 (by omega))) ?_
  refine Eq.trans (evK_d _ h2) ?_
  refine Eq.trans (evK_d _ (conv64i _ (x1 % 8) (by omega))) ?_
  refine Eq.trans (evK_d _ (add1_i (x1 % 8) (by omega))) ?_
  refine Eq.trans (evK_d _ (rem_u x2 6 (by omega))) ?_
  refine Eq.trans (evK_d _ e2) ?_
  refine Eq.trans (evK_d _ f2) ?_
  refine Eq.trans (evK_d _ (rem_u x2 1000003 (by omega))) ?_
  refine Eq.trans (evK_d _ h3) ?_
  refine Eq.trans (evK_d _ (conv64i _ (x2 % 6) (by omega))) ?_
  refine Eq.trans (evK_d _ (add1_i (x2 % 6) (by omega))) ?_
  refine Eq.trans (evK_d _ (rem_u x3 4 (by omega))) ?_
  refine Eq.trans (evK_d _ e3) ?_
  refine Eq.trans (evK_d _ f3) ?_
  refine Eq.trans (evK_d _ (rem_u x3 1000003 (by omega))) ?_
  refine Eq.trans (evK_d _ h4) ?_
  refine Eq.trans (evK_d _ (conv64i _ (x3 % 4) (by omega))) ?_
  refine Eq.trans (evK_d _ (add1_i (x3 % 4) (by omega))) ?_
  refine Eq.trans (evK_d _ (rem_u x4 2 (by omega))) ?_
  refine Eq.trans (evK_d _ e4) ?_
  refine Eq.trans (evK_d _ f4) ?_
  refine Eq.trans (evK_d _ (rem_u x4 1000003 (by omega))) ?_
  refine Eq.trans (evK_d _ h5) ?_
  refine Eq.trans (evK_d _ (conv64i _ (x4 % 2) (by omega))) ?_
  cases g
  · refine evK_tF ((cmp_eql .i64 (x4 % 2) 1).trans (by rw [← hg])) ?_
    refine (evK_chn (v := sv 9) (a := x0 % 4 + 1) rfl (lwOut j false) 1 (x0 % 4) (chn (sv 16) 1 (lwIn j false (x0 % 4))) (by unfold lwOut; rw [List.getElem?_map, List.getElem?_range (by omega)]; rfl) (by omega)).trans ?_
    refine (evK_chn (v := sv 16) (a := x1 % 8 + 1) rfl (lwIn j false (x0 % 4)) 1 (x1 % 8) (rv j (8 * (x0 % 4) + x1 % 8) (lwSub false)) (by unfold lwIn; rw [List.getElem?_map, List.getElem?_range (by omega)]; rfl) (by omega)).trans ?_
    exact ev_rv
  · refine evK_tT ((cmp_eql .i64 (x4 % 2) 1).trans (by rw [← hg])) ?_
    refine (evK_chn (v := sv 9) (a := x0 % 4 + 1) rfl (lwOut j true) 1 (x0 % 4) (chn (sv 16) 1 (lwIn j true (x0 % 4))) (by unfold lwOut; rw [List.getElem?_map, List.getElem?_range (by omega)]; rfl) (by omega)).trans ?_
    refine (evK_chn (v := sv 16) (a := x1 % 8 + 1) rfl (lwIn j true (x0 % 4)) 1 (x1 % 8) (rv j (8 * (x0 % 4) + x1 % 8) (lwSub true)) (by unfold lwIn; rw [List.getElem?_map, List.getElem?_range (by omega)]; rfl) (by omega)).trans ?_
    exact ev_rv
theorem sw0 (u v : List Value) : c32v0_c.F u v = CFn.F (P := Tryz.prog) [] (c32_f 0 c32_z0) u v := by kernel_rfl
theorem sw1 (u v : List Value) : c32v1_c.F u v = CFn.F (P := Tryz.prog) [] (c32_f 1 c32_z1) u v := by kernel_rfl
theorem sw2 (u v : List Value) : c32v2_c.F u v = CFn.F (P := Tryz.prog) [] (c32_f 2 c32_z2) u v := by kernel_rfl
theorem sw3 (u v : List Value) : c32v3_c.F u v = CFn.F (P := Tryz.prog) [] (c32_f 3 c32_z3) u v := by kernel_rfl
theorem sw4 (u v : List Value) : c32v4_c.F u v = CFn.F (P := Tryz.prog) [] (c32_f 4 c32_z4) u v := by kernel_rfl
theorem sw5 (u v : List Value) : c32v5_c.F u v = CFn.F (P := Tryz.prog) [] (c32_f 5 c32_z5) u v := by kernel_rfl
theorem sw6 (u v : List Value) : c32v6_c.F u v = CFn.F (P := Tryz.prog) [] (c32_f 6 c32_z6) u v := by kernel_rfl
theorem sw7 (u v : List Value) : c32v7_c.F u v = CFn.F (P := Tryz.prog) [] (c32_f 7 c32_z7) u v := by kernel_rfl
theorem sw8 (u v : List Value) : c32v8_c.F u v = CFn.F (P := Tryz.prog) [] (c32_f 8 c32_z8) u v := by kernel_rfl
theorem sw9 (u v : List Value) : c32v9_c.F u v = CFn.F (P := Tryz.prog) [] (c32_f 9 c32_z9) u v := by kernel_rfl
theorem sw10 (u v : List Value) : c32v10_c.F u v = CFn.F (P := Tryz.prog) [] (c32_f 10 c32_z10) u v := by kernel_rfl
theorem sw11 (u v : List Value) : c32v11_c.F u v = CFn.F (P := Tryz.prog) [] (c32_f 11 c32_z11) u v := by kernel_rfl
theorem sw12 (u v : List Value) : c32v12_c.F u v = CFn.F (P := Tryz.prog) [] (c32_f 12 c32_z12) u v := by kernel_rfl
theorem sw13 (u v : List Value) : c32v13_c.F u v = CFn.F (P := Tryz.prog) [] (c32_f 13 c32_z13) u v := by kernel_rfl
theorem sw14 (u v : List Value) : c32v14_c.F u v = CFn.F (P := Tryz.prog) [] (c32_f 14 c32_z14) u v := by kernel_rfl
theorem sw15 (u v : List Value) : c32v15_c.F u v = CFn.F (P := Tryz.prog) [] (c32_f 15 c32_z15) u v := by kernel_rfl
theorem sw16 (u v : List Value) : c32v16_c.F u v = CFn.F (P := Tryz.prog) [] (c32_f 16 c32_z16) u v := by kernel_rfl
theorem sw17 (u v : List Value) : c32v17_c.F u v = CFn.F (P := Tryz.prog) [] (c32_f 17 c32_z17) u v := by kernel_rfl
theorem sw18 (u v : List Value) : c32v18_c.F u v = CFn.F (P := Tryz.prog) [] (c32_f 18 c32_z18) u v := by kernel_rfl
theorem sw19 (u v : List Value) : c32v19_c.F u v = CFn.F (P := Tryz.prog) [] (c32_f 19 c32_z19) u v := by kernel_rfl
theorem sw20 (u v : List Value) : c32v20_c.F u v = CFn.F (P := Tryz.prog) [] (c32_f 20 c32_z20) u v := by kernel_rfl
theorem sw21 (u v : List Value) : c32v21_c.F u v = CFn.F (P := Tryz.prog) [] (c32_f 21 c32_z21) u v := by kernel_rfl
theorem sw22 (u v : List Value) : c32v22_c.F u v = CFn.F (P := Tryz.prog) [] (c32_f 22 c32_z22) u v := by kernel_rfl
theorem sw23 (u v : List Value) : c32v23_c.F u v = CFn.F (P := Tryz.prog) [] (c32_f 23 c32_z23) u v := by kernel_rfl
theorem sw24 (u v : List Value) : c32v24_c.F u v = CFn.F (P := Tryz.prog) [] (c32_f 24 c32_z24) u v := by kernel_rfl
theorem sw25 (u v : List Value) : c32v25_c.F u v = CFn.F (P := Tryz.prog) [] (c32_f 25 c32_z25) u v := by kernel_rfl
theorem sw26 (u v : List Value) : c32v26_c.F u v = CFn.F (P := Tryz.prog) [] (c32_f 26 c32_z26) u v := by kernel_rfl
theorem sw27 (u v : List Value) : c32v27_c.F u v = CFn.F (P := Tryz.prog) [] (c32_f 27 c32_z27) u v := by kernel_rfl
theorem sw28 (u v : List Value) : c32v28_c.F u v = CFn.F (P := Tryz.prog) [] (c32_f 28 c32_z28) u v := by kernel_rfl
theorem sw29 (u v : List Value) : c32v29_c.F u v = CFn.F (P := Tryz.prog) [] (c32_f 29 c32_z29) u v := by kernel_rfl
theorem sw30 (u v : List Value) : c32v30_c.F u v = CFn.F (P := Tryz.prog) [] (c32_f 30 c32_z30) u v := by kernel_rfl
theorem sw31 (u v : List Value) : c32v31_c.F u v = CFn.F (P := Tryz.prog) [] (c32_f 31 c32_z31) u v := by kernel_rfl
/-- a way's contract: what it answers by the setup's digits -/
def WayOK (z : Int) (d : Dg z) (k i : Nat) : Prop := ∃ c : Ctr Tryz.prog, lw_d[i]? = some c ∧ c.F [.int .i64 z, iv 65536] [] = (bif Nat.beq k (8 * d.b + d.t) then some (lwAnsV d.g d.m d.r, []) else none) ∧ c.post.ns = 9 ∧ c.post.nl = 0
def WaysOK (z : Int) (d : Dg z) : Nat → List (Nat × Tr Lf) → Prop
  | _, [] => True
  | k, p :: r => WayOK z d k p.1 ∧ WaysOK z d (k + 1) r
theorem ways_ok (z : Int) (d : Dg z) : WaysOK z d 0 lw_ways :=
  ⟨⟨c32v0_c, rfl, (sw0 _ _).trans (d.h 0 _), rfl, rfl⟩, ⟨⟨c32v1_c, rfl, (sw1 _ _).trans (d.h 1 _), rfl, rfl⟩, ⟨⟨c32v2_c, rfl, (sw2 _ _).trans (d.h 2 _), rfl, rfl⟩, ⟨⟨c32v3_c, rfl, (sw3 _ _).trans (d.h 3 _), rfl, rfl⟩, ⟨⟨c32v4_c, rfl, (sw4 _ _).trans (d.h 4 _), rfl, rfl⟩, ⟨⟨c32v5_c, rfl, (sw5 _ _).trans (d.h 5 _), rfl, rfl⟩, ⟨⟨c32v6_c, rfl, (sw6 _ _).trans (d.h 6 _), rfl, rfl⟩, ⟨⟨c32v7_c, rfl, (sw7 _ _).trans (d.h 7 _), rfl, rfl⟩, ⟨⟨c32v8_c, rfl, (sw8 _ _).trans (d.h 8 _), rfl, rfl⟩, ⟨⟨c32v9_c, rfl, (sw9 _ _).trans (d.h 9 _), rfl, rfl⟩, ⟨⟨c32v10_c, rfl, (sw10 _ _).trans (d.h 10 _), rfl, rfl⟩, ⟨⟨c32v11_c, rfl, (sw11 _ _).trans (d.h 11 _), rfl, rfl⟩, ⟨⟨c32v12_c, rfl, (sw12 _ _).trans (d.h 12 _), rfl, rfl⟩, ⟨⟨c32v13_c, rfl, (sw13 _ _).trans (d.h 13 _), rfl, rfl⟩, ⟨⟨c32v14_c, rfl, (sw14 _ _).trans (d.h 14 _), rfl, rfl⟩, ⟨⟨c32v15_c, rfl, (sw15 _ _).trans (d.h 15 _), rfl, rfl⟩, ⟨⟨c32v16_c, rfl, (sw16 _ _).trans (d.h 16 _), rfl, rfl⟩, ⟨⟨c32v17_c, rfl, (sw17 _ _).trans (d.h 17 _), rfl, rfl⟩, ⟨⟨c32v18_c, rfl, (sw18 _ _).trans (d.h 18 _), rfl, rfl⟩, ⟨⟨c32v19_c, rfl, (sw19 _ _).trans (d.h 19 _), rfl, rfl⟩, ⟨⟨c32v20_c, rfl, (sw20 _ _).trans (d.h 20 _), rfl, rfl⟩, ⟨⟨c32v21_c, rfl, (sw21 _ _).trans (d.h 21 _), rfl, rfl⟩, ⟨⟨c32v22_c, rfl, (sw22 _ _).trans (d.h 22 _), rfl, rfl⟩, ⟨⟨c32v23_c, rfl, (sw23 _ _).trans (d.h 23 _), rfl, rfl⟩, ⟨⟨c32v24_c, rfl, (sw24 _ _).trans (d.h 24 _), rfl, rfl⟩, ⟨⟨c32v25_c, rfl, (sw25 _ _).trans (d.h 25 _), rfl, rfl⟩, ⟨⟨c32v26_c, rfl, (sw26 _ _).trans (d.h 26 _), rfl, rfl⟩, ⟨⟨c32v27_c, rfl, (sw27 _ _).trans (d.h 27 _), rfl, rfl⟩, ⟨⟨c32v28_c, rfl, (sw28 _ _).trans (d.h 28 _), rfl, rfl⟩, ⟨⟨c32v29_c, rfl, (sw29 _ _).trans (d.h 29 _), rfl, rfl⟩, ⟨⟨c32v30_c, rfl, (sw30 _ _).trans (d.h 30 _), rfl, rfl⟩, trivial⟩⟩⟩⟩⟩⟩⟩⟩⟩⟩⟩⟩⟩⟩⟩⟩⟩⟩⟩⟩⟩⟩⟩⟩⟩⟩⟩⟩⟩⟩⟩
theorem way_last (z : Int) (d : Dg z) : WayOK z d 31 37 := ⟨c32v31_c, rfl, (sw31 _ _).trans (d.h 31 _), rfl, rfl⟩
def lwE0 (z y : Int) : Env := envL [.int .i64 z, .int .i64 y] []
theorem way_at {z y : Int} {d : Dg z} {K : Lf → Env → Option (List Value × List Value)} : ∀ (l : List (Nat × Tr Lf)) (k : Nat) (A : Tr Lf) (T : Tr Lf), WaysOK z d k l → k ≤ 8 * d.b + d.t → (∀ p, l[8 * d.b + d.t - k]? = some p → p.2 = A) → 8 * d.b + d.t < k + l.length →
    evK lw_d K (waysT l T) 2 0 (lwE0 z y) = evK lw_d K A 11 0 ⟨updL (lwE0 z y).s 2 (lwAnsV d.g d.m d.r), (lwE0 z y).l⟩
  | [], k, A, T, _, h1, _, h3 => by simp at h3; omega
  | p :: r, k, A, T, ⟨⟨c, hc, hF, hn, hm⟩, hr⟩, h1, h2, h3 => by
    by_cases he : k = 8 * d.b + d.t
    · have hA : p.2 = A := h2 p (by rw [he, Nat.sub_self]; rfl)
      have hF' : c.F [.int .i64 z, iv 65536] [] = some (lwAnsV d.g d.m d.r, []) := by rw [hF, he, Nat.beq_refl]; rfl
      refine (evK_o1 (s := lw_S) (env := lwE0 z y) (lwAnsV d.g d.m d.r) [] hc hF').trans ?_
      rw [hn, hm, hA]; rfl
    · have hF' : c.F [.int .i64 z, iv 65536] [] = none := by
        rw [hF]
        cases hb : Nat.beq k (8 * d.b + d.t) with
        | true => exact absurd (Nat.eq_of_beq_eq_true hb) he
        | false => rfl
      refine (evK_o2 (s := lw_S) (env := lwE0 z y) hc hF').trans ?_
      refine way_at r (k + 1) A T hr (by omega) (fun q hq => h2 q ?_) (by simp at h3; omega)
      rw [show 8 * d.b + d.t - k = 8 * d.b + d.t - (k + 1) + 1 by omega]
      exact hq
def lwAs : List (Tr Lf) := [lw_A0, lw_A1, lw_A2, lw_A3, lw_A4, lw_A5, lw_A6, lw_A7, lw_A8, lw_A9, lw_A10, lw_A11, lw_A12, lw_A13, lw_A14, lw_A15, lw_A16, lw_A17, lw_A18, lw_A19, lw_A20, lw_A21, lw_A22, lw_A23, lw_A24, lw_A25, lw_A26, lw_A27, lw_A28, lw_A29, lw_A30, lw_A31]
theorem lwAs_ok : ∀ A ∈ lwAs, okW A = true := by
  intro A hA
  unfold lwAs at hA
  simp only [List.mem_cons, List.not_mem_nil, or_false] at hA
  rcases hA with rfl | rfl | rfl | rfl | rfl | rfl | rfl | rfl | rfl | rfl | rfl | rfl | rfl | rfl | rfl | rfl | rfl | rfl | rfl | rfl | rfl | rfl | rfl | rfl | rfl | rfl | rfl | rfl | rfl | rfl | rfl | rfl
  · exact okw0
  · exact okw1
  · exact okw2
  · exact okw3
  · exact okw4
  · exact okw5
  · exact okw6
  · exact okw7
  · exact okw8
  · exact okw9
  · exact okw10
  · exact okw11
  · exact okw12
  · exact okw13
  · exact okw14
  · exact okw15
  · exact okw16
  · exact okw17
  · exact okw18
  · exact okw19
  · exact okw20
  · exact okw21
  · exact okw22
  · exact okw23
  · exact okw24
  · exact okw25
  · exact okw26
  · exact okw27
  · exact okw28
  · exact okw29
  · exact okw30
  · exact okw31
theorem lw_way (z y : Int) (d : Dg z) {K : Lf → Env → Option (List Value × List Value)} : ∃ A ∈ lwAs, evK lw_d K lw_T0 2 0 (lwE0 z y) = evK lw_d K A 11 0 ⟨updL (lwE0 z y).s 2 (lwAnsV d.g d.m d.r), (lwE0 z y).l⟩ := by
  have hw : 8 * d.b + d.t < 32 := by have := d.hb; have := d.ht; omega
  by_cases h31 : 8 * d.b + d.t = 31
  · refine ⟨lw_A31, by simp [lwAs], ?_⟩
    obtain ⟨c, hc, hF, hn, hm⟩ := way_last z d
    have hF' : c.F [.int .i64 z, iv 65536] [] = some (lwAnsV d.g d.m d.r, []) := by rw [hF, h31]; rfl
    have hsk : ∀ (l : List (Nat × Tr Lf)) (k : Nat) (T : Tr Lf), WaysOK z d k l → k + l.length ≤ 31 → evK lw_d K (waysT l T) 2 0 (lwE0 z y) = evK lw_d K T 2 0 (lwE0 z y) := by
      intro l
      induction l with
      | nil => intro k T _ _; rfl
      | cons p r ih =>
        intro k T ⟨⟨c', hc', hF2, _, _⟩, hr⟩ hl
        have hl' : k + (r.length + 1) ≤ 31 := hl
        have hF3 : c'.F [.int .i64 z, iv 65536] [] = none := by
          rw [hF2]
          cases hb : Nat.beq k (8 * d.b + d.t) with
          | true => exact absurd (Nat.eq_of_beq_eq_true hb) (by omega)
          | false => rfl
        exact (evK_o2 (s := lw_S) (env := lwE0 z y) hc' hF3).trans (ih (k + 1) T hr (by omega))
    refine (hsk lw_ways 0 _ (ways_ok z d) (by show 0 + 31 ≤ 31; omega)).trans ?_
    refine (evK_c (s := lw_S) (env := lwE0 z y) (lwAnsV d.g d.m d.r) [] hc hF').trans ?_
    rw [hn, hm]; rfl
  · have hl : lw_ways.length = 31 := rfl
    obtain ⟨p, hp⟩ : ∃ p, lw_ways[8 * d.b + d.t]? = some p := ⟨_, List.getElem?_eq_getElem (by rw [hl]; omega)⟩
    refine ⟨p.2, ?_, way_at lw_ways 0 p.2 _ (ways_ok z d) (Nat.zero_le _) (fun q hq => by rw [Nat.sub_zero, hp] at hq; cases hq; rfl) (by rw [hl]; omega)⟩
    have hm : p ∈ lw_ways := List.mem_of_getElem? hp
    have : ∀ q ∈ lw_ways, q.2 ∈ lwAs := by
      intro q hq
      unfold lw_ways at hq
      simp only [List.mem_cons, List.not_mem_nil, or_false] at hq
      unfold lwAs
      rcases hq with rfl | rfl | rfl | rfl | rfl | rfl | rfl | rfl | rfl | rfl | rfl | rfl | rfl | rfl | rfl | rfl | rfl | rfl | rfl | rfl | rfl | rfl | rfl | rfl | rfl | rfl | rfl | rfl | rfl | rfl | rfl <;> simp only [List.mem_cons, true_or, or_true]
    exact this p hm
theorem q0_of (g : Bool) (m r n : Nat) (z y x : Int) : lwQ.ofY (lwVal g m r n y x) (lwLv m) ⟨updL (lwE0 z y).s 2 (lwAnsV g m r), (lwE0 z y).l⟩ := by
  refine ⟨fun j v hj hg => ?_, fun j v hj hg => ?_⟩
  · rcases setT_get (sv 4 :: lwAns) _ 1 (by decide) j v hj hg with ⟨h1, h⟩ | h
    · have hlt := (List.getElem?_eq_some_iff.1 h).1
      have hlt : j - 1 < 10 := hlt
      obtain ⟨i, rfl⟩ : ∃ i, j = i + 1 := ⟨j - 1, by omega⟩
      rw [Nat.add_sub_cancel] at h hlt
      match i, hlt with
      | 0, _ => cases h; rfl
      | 1, _ => cases h; rfl
      | 2, _ => cases h; rfl
      | 3, _ => cases h; rfl
      | 4, _ => cases h; rfl
      | 5, _ => cases h; rfl
      | 6, _ => cases h; rfl
      | 7, _ => cases h; rfl
      | 8, _ => cases h; rfl
      | 9, _ => cases h; rfl
    · rw [TM.get_lf] at h; cases h
  · rw [show lwQ.l = TM.lf none from rfl, TM.get_lf] at hg; cases hg
set_option maxHeartbeats 0 in
theorem law_F (z y : Int) : lw_c.F [.int .i64 z, .int .i64 y] [] = some ([tt], []) := by
  have h3 : ∀ u v, lw_c.F u v = CFn.F (P := Tryz.prog) lw_d lw_f u v := by intro u v; kernel_rfl
  rw [h3]
  refine Eq.trans (flat_eq lw_k0 rfl) ?_
  obtain ⟨d⟩ := dg z
  obtain ⟨A, hA, hev⟩ := lw_way z y d (K := lw_f.K lw_d (manyK - 1))
  refine hev.trans ?_
  have hok := lwAs_ok A hA
  have hx1 : -21 < y.tmod 21 := by have := Int.lt_tmod_of_pos y (show (0 : Int) < 21 by omega); omega
  have hx2 : y.tmod 21 < 21 := Int.tmod_lt_of_pos y (by omega)
  obtain ⟨neg, hneg⟩ : ∃ neg, neg = decide (y.tmod 21 < 0) := ⟨_, rfl⟩
  obtain ⟨n, hn⟩ : ∃ n : Nat, (n : Int) = bif neg then y.tmod 21 + 21 else y.tmod 21 := by
    cases neg with
    | true => exact ⟨(y.tmod 21 + 21).toNat, by rw [cond_true]; omega⟩
    | false =>
      have := of_decide_eq_false hneg.symm
      exact ⟨(y.tmod 21).toNat, by rw [cond_false]; omega⟩
  have hn20 : n ≤ 20 := by
    cases neg with
    | true =>
      have := of_decide_eq_true hneg.symm
      rw [cond_true] at hn; omega
    | false => rw [cond_false] at hn; omega
  have hq : lwQ.ofY (lwVal d.g d.m d.r n y (y.tmod 21)) (lwLv d.m) ⟨updL (lwE0 z y).s 2 (lwAnsV d.g d.m d.r), (lwE0 z y).l⟩ := q0_of d.g d.m d.r n z y (y.tmod 21)
  have hcuts : ∀ j c, lwCut j = some c → lw_f.cuts[j]? = some c := fun _ _ h => h
  have fin : ∀ (j : Nat) (ss ls : List Value), evY (tyE neg) KY A 11 0 lwQ = some (Nat.succ j, ss, ls) → loopY lwCut tyG tyD 20 0 j ss ls = true →
      evK lw_d (lw_f.K lw_d (manyK - 1)) A 11 0 ⟨updL (lwE0 z y).s 2 (lwAnsV d.g d.m d.r), (lwE0 z y).l⟩ = some ([tt], []) := by
    intro j ss ls he hl
    have hrun := loopY_ok (F := lw_f) (ds := lw_d) hcuts (val := lwVal d.g d.m d.r n y (y.tmod 21)) (lval := lwLv d.m) (n := n) (fun i hi => tyG_ok i d.g d.m d.r n y (y.tmod 21) d.hm d.hr hi) (tyD_ok n d.g d.m d.r y (y.tmod 21) d.hm d.hr hn20) 20 0 j ss ls (manyK - 1) hl (Nat.zero_le _) (by omega) (by unfold manyK; omega)
    exact evY_ok (K := KY) (tyE_ok neg d.g d.m d.r n y (y.tmod 21) d.hm d.hr rfl hn hneg) (fun a q env hq hr => KY_go hrun hq hr) A 11 0 _ _ hq he
  unfold okW at hok
  split at hok
  case h_2 => cases hok
  rename_i j ss ls j' ss' ls' e1 e2
  simp only [Bool.and_eq_true] at hok
  obtain ⟨⟨⟨k1, k2⟩, k3⟩, k4⟩ := hok
  cases neg with
  | false => exact fin j ss ls e1 k4
  | true =>
    have := Nat.eq_of_beq_eq_true k1
    subst this
    have := veqL_eq (veq_eq 7) k2
    subst this
    have := veqL_eq (veq_eq 7) k3
    subst this
    exact fin j ss ls e2 k4
theorem law_call {W : World} (z x : Int) (_ : (Lit.int .i64 z).wf = true) (_ : (Lit.int .i64 x).wf = true) : Calls Tryz.prog 3 ⟨[.int .i64 z, .int .i64 x]⟩ W fun e w' => e = .returned (.bool true) ∧ Below W.heap.size W w' := by
  have fin : ∀ (c : Ctr Tryz.prog), c.g = 3 → c.pan = false → c.pre.mem = [] → c.pre.vs = [sv 0, sv 1] → c.post.vs = [tt] → bL c.pre [.int .i64 z, .int .i64 x] [] = true → c.F [.int .i64 z, .int .i64 x] [] = some ([.bool true], []) → Calls Tryz.prog 3 ⟨[.int .i64 z, .int .i64 x]⟩ W fun e w' => e = .returned (.bool true) ∧ Below W.heap.size W w' := by
    intro c hg hpan hmem hpre hpost hb hF
    rw [← hg]
    refine (c.enter hpan hmem hb hF (rfl : [Value.int .i64 z, .int .i64 x].all isOneV = true) (W := W) (args := [.int .i64 z, .int .i64 x]) ?_).mono ?_
    · rw [hpre]
      exact @VRL.cons (symL _ _ _) _ _ _ _ _ (@VR.sym (symL _ _ _) _ _ _ _ _ rfl) (@VRL.cons (symL _ _ _) _ _ _ _ _ (@VR.sym (symL _ _ _) _ _ _ _ _ rfl) (@VRL.nil (symL _ _ _) _))
    · rintro e w' ⟨v, rfl, hS, hbel⟩
      refine ⟨?_, hbel⟩
      obtain ⟨φ', hv⟩ := hS (symL [.bool true] [] rfl) symL_agrees
      rw [hpost] at hv
      have hv : @VR (symL [.bool true] [] rfl) φ' (.bool true) v := hv
      cases hv
      rfl
  exact fin lw_c rfl rfl rfl rfl rfl rfl (law_F z x)
end Go.Proofs.YtbmbakmhnimkfaaGreat.U
