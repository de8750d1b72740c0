/- ServerQueue: for every number for the queue, every number for the calls, refused or not, the law about a queue that is full returns true, and what was handed in reads as it did. No condition beyond the given statement. -/
import Derived.Test.YtopofdjgfbimnaaGreatFQueue
import Derived.Test.YtopofdjgfbimnaaGreatQr0
import Derived.Test.YtopofdjgfbimnaaGreatQr1
import Derived.Test.YtopofdjgfbimnaaGreatQr2
import Derived.Test.YtopofdjgfbimnaaGreatQr3
import Derived.WalkKit
import Derived.ProofKit
import Derived.OpenShut
import Derived.ShutString
import Derived.ChangeOld
import Derived.Below
namespace Go.Proofs.YtopofdjgfbimnaaGreat
open Go Go.Eng Go.ChangeShapes Go.WideShapes Go.ChangeAt Go.RowKit
namespace QueueRow
theorem allT (q c : Int) (w : World) :
    Calls Tryz.prog 4 ⟨[.int .i64 q, .int .i64 c, .bool true]⟩ w fun e w' => e = .returned (.bool true) ∧ Below w.heap.size w w' := by
  have hn := Int.emod_nonneg c (show (8 : Int) ≠ 0 by decide)
  have hl := Int.emod_lt_of_pos c (show (0 : Int) < 8 by decide)
  have h' : Int.emod c 8 = c % 8 := rfl
  obtain ⟨r, hr, hc⟩ : ∃ r : Nat, r < 8 ∧ Int.emod c 8 = (r : Int) := ⟨(Int.emod c 8).toNat, by rw [h']; omega, by rw [h']; omega⟩
  obtain ⟨k, hk8, hk⟩ : ∃ k, k ≤ 8 ∧ kR (mN q) = k := ⟨_, by
    have := (mN_le q).2
    exact Nat.min_le_left _ _, rfl⟩
  match r, k, hr, hk8, hc, hk with
  | 0, 0, _, _, hc, hk => exact Wt1_0 q c hc hk w
  | 0, 1, _, _, hc, hk => exact Wt1_1 q c hc hk w
  | 0, 2, _, _, hc, hk => exact Wt1_2 q c hc hk w
  | 0, 3, _, _, hc, hk => exact Wt1_3 q c hc hk w
  | 0, 4, _, _, hc, hk => exact Wt1_4 q c hc hk w
  | 0, 5, _, _, hc, hk => exact Wt1_5 q c hc hk w
  | 0, 6, _, _, hc, hk => exact Wt1_6 q c hc hk w
  | 0, 7, _, _, hc, hk => exact Wt1_7 q c hc hk w
  | 0, 8, _, _, hc, hk => exact Wt1_8 q c hc hk w
  | 1, 0, _, _, hc, hk => exact Wt2_0 q c hc hk w
  | 1, 1, _, _, hc, hk => exact Wt2_1 q c hc hk w
  | 1, 2, _, _, hc, hk => exact Wt2_2 q c hc hk w
  | 1, 3, _, _, hc, hk => exact Wt2_3 q c hc hk w
  | 1, 4, _, _, hc, hk => exact Wt2_4 q c hc hk w
  | 1, 5, _, _, hc, hk => exact Wt2_5 q c hc hk w
  | 1, 6, _, _, hc, hk => exact Wt2_6 q c hc hk w
  | 1, 7, _, _, hc, hk => exact Wt2_7 q c hc hk w
  | 1, 8, _, _, hc, hk => exact Wt2_8 q c hc hk w
  | 2, 0, _, _, hc, hk => exact Wt3_0 q c hc hk w
  | 2, 1, _, _, hc, hk => exact Wt3_1 q c hc hk w
  | 2, 2, _, _, hc, hk => exact Wt3_2 q c hc hk w
  | 2, 3, _, _, hc, hk => exact Wt3_3 q c hc hk w
  | 2, 4, _, _, hc, hk => exact Wt3_4 q c hc hk w
  | 2, 5, _, _, hc, hk => exact Wt3_5 q c hc hk w
  | 2, 6, _, _, hc, hk => exact Wt3_6 q c hc hk w
  | 2, 7, _, _, hc, hk => exact Wt3_7 q c hc hk w
  | 2, 8, _, _, hc, hk => exact Wt3_8 q c hc hk w
  | 3, 0, _, _, hc, hk => exact Wt4_0 q c hc hk w
  | 3, 1, _, _, hc, hk => exact Wt4_1 q c hc hk w
  | 3, 2, _, _, hc, hk => exact Wt4_2 q c hc hk w
  | 3, 3, _, _, hc, hk => exact Wt4_3 q c hc hk w
  | 3, 4, _, _, hc, hk => exact Wt4_4 q c hc hk w
  | 3, 5, _, _, hc, hk => exact Wt4_5 q c hc hk w
  | 3, 6, _, _, hc, hk => exact Wt4_6 q c hc hk w
  | 3, 7, _, _, hc, hk => exact Wt4_7 q c hc hk w
  | 3, 8, _, _, hc, hk => exact Wt4_8 q c hc hk w
  | 4, 0, _, _, hc, hk => exact Wt5_0 q c hc hk w
  | 4, 1, _, _, hc, hk => exact Wt5_1 q c hc hk w
  | 4, 2, _, _, hc, hk => exact Wt5_2 q c hc hk w
  | 4, 3, _, _, hc, hk => exact Wt5_3 q c hc hk w
  | 4, 4, _, _, hc, hk => exact Wt5_4 q c hc hk w
  | 4, 5, _, _, hc, hk => exact Wt5_5 q c hc hk w
  | 4, 6, _, _, hc, hk => exact Wt5_6 q c hc hk w
  | 4, 7, _, _, hc, hk => exact Wt5_7 q c hc hk w
  | 4, 8, _, _, hc, hk => exact Wt5_8 q c hc hk w
  | 5, 0, _, _, hc, hk => exact Wt6_0 q c hc hk w
  | 5, 1, _, _, hc, hk => exact Wt6_1 q c hc hk w
  | 5, 2, _, _, hc, hk => exact Wt6_2 q c hc hk w
  | 5, 3, _, _, hc, hk => exact Wt6_3 q c hc hk w
  | 5, 4, _, _, hc, hk => exact Wt6_4 q c hc hk w
  | 5, 5, _, _, hc, hk => exact Wt6_5 q c hc hk w
  | 5, 6, _, _, hc, hk => exact Wt6_6 q c hc hk w
  | 5, 7, _, _, hc, hk => exact Wt6_7 q c hc hk w
  | 5, 8, _, _, hc, hk => exact Wt6_8 q c hc hk w
  | 6, 0, _, _, hc, hk => exact Wt7_0 q c hc hk w
  | 6, 1, _, _, hc, hk => exact Wt7_1 q c hc hk w
  | 6, 2, _, _, hc, hk => exact Wt7_2 q c hc hk w
  | 6, 3, _, _, hc, hk => exact Wt7_3 q c hc hk w
  | 6, 4, _, _, hc, hk => exact Wt7_4 q c hc hk w
  | 6, 5, _, _, hc, hk => exact Wt7_5 q c hc hk w
  | 6, 6, _, _, hc, hk => exact Wt7_6 q c hc hk w
  | 6, 7, _, _, hc, hk => exact Wt7_7 q c hc hk w
  | 6, 8, _, _, hc, hk => exact Wt7_8 q c hc hk w
  | 7, 0, _, _, hc, hk => exact Wt8_0 q c hc hk w
  | 7, 1, _, _, hc, hk => exact Wt8_1 q c hc hk w
  | 7, 2, _, _, hc, hk => exact Wt8_2 q c hc hk w
  | 7, 3, _, _, hc, hk => exact Wt8_3 q c hc hk w
  | 7, 4, _, _, hc, hk => exact Wt8_4 q c hc hk w
  | 7, 5, _, _, hc, hk => exact Wt8_5 q c hc hk w
  | 7, 6, _, _, hc, hk => exact Wt8_6 q c hc hk w
  | 7, 7, _, _, hc, hk => exact Wt8_7 q c hc hk w
  | 7, 8, _, _, hc, hk => exact Wt8_8 q c hc hk w
  | r + 8, _, h, _, _, _ => omega
  | _, k + 9, _, h, _, _ => omega

theorem allF (q c : Int) (w : World) :
    Calls Tryz.prog 4 ⟨[.int .i64 q, .int .i64 c, .bool false]⟩ w fun e w' => e = .returned (.bool true) ∧ Below w.heap.size w w' := by
  have hn := Int.emod_nonneg c (show (8 : Int) ≠ 0 by decide)
  have hl := Int.emod_lt_of_pos c (show (0 : Int) < 8 by decide)
  have h' : Int.emod c 8 = c % 8 := rfl
  obtain ⟨r, hr, hc⟩ : ∃ r : Nat, r < 8 ∧ Int.emod c 8 = (r : Int) := ⟨(Int.emod c 8).toNat, by rw [h']; omega, by rw [h']; omega⟩
  obtain ⟨k, hk8, hk⟩ : ∃ k, k ≤ 7 ∧ kN (mN q) = k := ⟨_, by
    have := (mN_le q).2
    unfold kN; omega, rfl⟩
  match r, k, hr, hk8, hc, hk with
  | 0, 0, _, _, hc, hk => exact Wf1_0 q c hc hk w
  | 0, 1, _, _, hc, hk => exact Wf1_1 q c hc hk w
  | 0, 2, _, _, hc, hk => exact Wf1_2 q c hc hk w
  | 0, 3, _, _, hc, hk => exact Wf1_3 q c hc hk w
  | 0, 4, _, _, hc, hk => exact Wf1_4 q c hc hk w
  | 0, 5, _, _, hc, hk => exact Wf1_5 q c hc hk w
  | 0, 6, _, _, hc, hk => exact Wf1_6 q c hc hk w
  | 0, 7, _, _, hc, hk => exact Wf1_7 q c hc hk w
  | 1, 0, _, _, hc, hk => exact Wf2_0 q c hc hk w
  | 1, 1, _, _, hc, hk => exact Wf2_1 q c hc hk w
  | 1, 2, _, _, hc, hk => exact Wf2_2 q c hc hk w
  | 1, 3, _, _, hc, hk => exact Wf2_3 q c hc hk w
  | 1, 4, _, _, hc, hk => exact Wf2_4 q c hc hk w
  | 1, 5, _, _, hc, hk => exact Wf2_5 q c hc hk w
  | 1, 6, _, _, hc, hk => exact Wf2_6 q c hc hk w
  | 1, 7, _, _, hc, hk => exact Wf2_7 q c hc hk w
  | 2, 0, _, _, hc, hk => exact Wf3_0 q c hc hk w
  | 2, 1, _, _, hc, hk => exact Wf3_1 q c hc hk w
  | 2, 2, _, _, hc, hk => exact Wf3_2 q c hc hk w
  | 2, 3, _, _, hc, hk => exact Wf3_3 q c hc hk w
  | 2, 4, _, _, hc, hk => exact Wf3_4 q c hc hk w
  | 2, 5, _, _, hc, hk => exact Wf3_5 q c hc hk w
  | 2, 6, _, _, hc, hk => exact Wf3_6 q c hc hk w
  | 2, 7, _, _, hc, hk => exact Wf3_7 q c hc hk w
  | 3, 0, _, _, hc, hk => exact Wf4_0 q c hc hk w
  | 3, 1, _, _, hc, hk => exact Wf4_1 q c hc hk w
  | 3, 2, _, _, hc, hk => exact Wf4_2 q c hc hk w
  | 3, 3, _, _, hc, hk => exact Wf4_3 q c hc hk w
  | 3, 4, _, _, hc, hk => exact Wf4_4 q c hc hk w
  | 3, 5, _, _, hc, hk => exact Wf4_5 q c hc hk w
  | 3, 6, _, _, hc, hk => exact Wf4_6 q c hc hk w
  | 3, 7, _, _, hc, hk => exact Wf4_7 q c hc hk w
  | 4, 0, _, _, hc, hk => exact Wf5_0 q c hc hk w
  | 4, 1, _, _, hc, hk => exact Wf5_1 q c hc hk w
  | 4, 2, _, _, hc, hk => exact Wf5_2 q c hc hk w
  | 4, 3, _, _, hc, hk => exact Wf5_3 q c hc hk w
  | 4, 4, _, _, hc, hk => exact Wf5_4 q c hc hk w
  | 4, 5, _, _, hc, hk => exact Wf5_5 q c hc hk w
  | 4, 6, _, _, hc, hk => exact Wf5_6 q c hc hk w
  | 4, 7, _, _, hc, hk => exact Wf5_7 q c hc hk w
  | 5, 0, _, _, hc, hk => exact Wf6_0 q c hc hk w
  | 5, 1, _, _, hc, hk => exact Wf6_1 q c hc hk w
  | 5, 2, _, _, hc, hk => exact Wf6_2 q c hc hk w
  | 5, 3, _, _, hc, hk => exact Wf6_3 q c hc hk w
  | 5, 4, _, _, hc, hk => exact Wf6_4 q c hc hk w
  | 5, 5, _, _, hc, hk => exact Wf6_5 q c hc hk w
  | 5, 6, _, _, hc, hk => exact Wf6_6 q c hc hk w
  | 5, 7, _, _, hc, hk => exact Wf6_7 q c hc hk w
  | 6, 0, _, _, hc, hk => exact Wf7_0 q c hc hk w
  | 6, 1, _, _, hc, hk => exact Wf7_1 q c hc hk w
  | 6, 2, _, _, hc, hk => exact Wf7_2 q c hc hk w
  | 6, 3, _, _, hc, hk => exact Wf7_3 q c hc hk w
  | 6, 4, _, _, hc, hk => exact Wf7_4 q c hc hk w
  | 6, 5, _, _, hc, hk => exact Wf7_5 q c hc hk w
  | 6, 6, _, _, hc, hk => exact Wf7_6 q c hc hk w
  | 6, 7, _, _, hc, hk => exact Wf7_7 q c hc hk w
  | 7, 0, _, _, hc, hk => exact Wf8_0 q c hc hk w
  | 7, 1, _, _, hc, hk => exact Wf8_1 q c hc hk w
  | 7, 2, _, _, hc, hk => exact Wf8_2 q c hc hk w
  | 7, 3, _, _, hc, hk => exact Wf8_3 q c hc hk w
  | 7, 4, _, _, hc, hk => exact Wf8_4 q c hc hk w
  | 7, 5, _, _, hc, hk => exact Wf8_5 q c hc hk w
  | 7, 6, _, _, hc, hk => exact Wf8_6 q c hc hk w
  | 7, 7, _, _, hc, hk => exact Wf8_7 q c hc hk w
  | r + 8, _, h, _, _, _ => omega
  | _, k + 8, _, h, _, _ => omega

set_option maxRecDepth 100000 in
theorem lifted (os : Os) (started : os.Started) (H : Type) (enc : TypeId × Value → H) :
    ReturnsInHanded {} Tryz.checked os 4 .any (Rows.serverQueueSpec.pre6 enc Tryz.prog Tryz.f4 Rows.serverQueueRow.domain false) (Rows.serverQueueSpec.post enc Tryz.prog Tryz.f4 false true false false) := by
  refine returnsInHanded_of_change (C := Tryz.checked) Facts.own started (by kernel_rfl) Tryz.func4
    (ChangeSpec.witness6 (enc := enc) (C := Tryz.checked) false ⟨#[], #[.int .i64 0, .int .i64 0, .bool false], []⟩ 8 (by kernel_rfl) (by kernel_rfl) (by kernel_rfl) (by kernel_rfl)) ?_
  intro W base args ds gs before hval0 hW hcnd _
  have hval : ∀ (j : Nat) t v, Tryz.f4.params[j]? = some t → args[j]? = some v → Value.okWide Tryz.prog W .any base t v := hval0
  have hW' := hW
  obtain ⟨p, q, hA0, hV, rfl, hfz, hnd⟩ := hW
  have hA : DataW.TrodAll enc Tryz.prog W 0 (fun _ => true) true Tryz.f4.params.toList args.toList ds p := hA0
  rw [Tryz.params4] at hA hval
  obtain ⟨v0, vs0, d0, ds0, p0, q0, hargs, rfl, rfl, h0, r0⟩ := trodAll_cons hA
  obtain ⟨v1, vs1, d1, ds1, p1, q1, rfl, rfl, rfl, h1, r1⟩ := trodAll_cons r0
  obtain ⟨v2, vs2, d2, ds2, p2, q2, rfl, rfl, rfl, h2, r2⟩ := trodAll_cons r1
  obtain ⟨rfl, rfl, rfl⟩ := trodAll_nil r2
  obtain rfl : args = #[v0, v1, v2] := by cases args; simp_all
  obtain ⟨rfl, rfl⟩ := trodVars_none hV
  have k0 := h0
  have k1 := h1
  have k2 := h2
  have lt0 : ∀ x ∈ p0, x.block < W.heap.size := by obtain ⟨m, hm⟩ := k0; exact DataW.trod_lt m _ _ _ hm
  have lt1 : ∀ x ∈ p1, x.block < W.heap.size := by obtain ⟨m, hm⟩ := k1; exact DataW.trod_lt m _ _ _ hm
  have lt2 : ∀ x ∈ p2, x.block < W.heap.size := by obtain ⟨m, hm⟩ := k2; exact DataW.trod_lt m _ _ _ hm
  obtain ⟨a0, rfl⟩ := okWide_int Tryz.underlying3 (hval 0 3 v0 rfl rfl)
  obtain ⟨a1, rfl⟩ := okWide_int Tryz.underlying3 (hval 1 3 v1 rfl rfl)
  obtain ⟨a2, rfl⟩ := okWide_bool Tryz.underlying4 (hval 2 4 v2 rfl rfl)
  clear hA0 hval0
  have hwalk : Calls Tryz.prog 4 #[.int .i64 a0, .int .i64 a1, .bool a2] W fun e w' => e = .returned (.bool true) ∧ Below W.heap.size W w' := by
    cases a2
    · exact allF a0 a1 W
    · exact allT a0 a1 W
  refine hwalk.mono fun e W' ⟨he, bel⟩ => ?_
  subst he
  exact ⟨_, rfl, _, _, _, [], _, [], hW', trodAll_mk1 (shut_bool Tryz.underlying4 _), (trodAll_cons_mk (Below.trod Facts.laidOut (by kernel_rfl) (of_decide_eq_true (by kernel_rfl)) k0 bel lt0) (trodAll_cons_mk (Below.trod Facts.laidOut (by kernel_rfl) (of_decide_eq_true (by kernel_rfl)) k1 bel lt1) (trodAll_cons_mk (Below.trod Facts.laidOut (by kernel_rfl) (of_decide_eq_true (by kernel_rfl)) k2 bel lt2) trodAll_mk0))), rfl, bel.frame _, fun h => by cases h⟩

theorem over : Rows.serverQueueRow.holds Tryz.pinned (OpenSpec.ofChange Rows.serverQueueSpec) :=
  OpenClaim.holds_of_wide 4 Tryz.f4 rfl rfl rfl rfl rfl rfl rfl ⟨rfl, rfl, rfl, rfl, rfl⟩ rfl rfl rfl rfl rfl serverQueueFacts.func Tryz.func4 serverQueueFacts.joined
    serverQueueFacts.inst serverQueueFacts.wrapper
    (fun os started H enc _ => lifted os started H enc)
end QueueRow

theorem serverQueueProved : Rows.ServerQueueSaid := QueueRow.over
#print axioms serverQueueProved
end Go.Proofs.YtopofdjgfbimnaaGreat
