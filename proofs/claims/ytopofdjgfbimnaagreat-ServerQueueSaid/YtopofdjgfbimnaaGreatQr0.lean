/- The law, run: at every number of calls, at every queue of a kind. -/
import Derived.Test.YtopofdjgfbimnaaGreatQs0
namespace Go.Proofs.YtopofdjgfbimnaaGreat
open Go Go.Eng
namespace QueueRow
open Go.RowKit
def Tt1_0 : List SRule := [.bin .add (iv 1) (sv 5) (sv 6), .bin .leq (iv 10) (sv 6) (.bool false)]
def Lt1_0 : List Seg := [q0, q1, q2]
theorem Ct1_0 : chk kR 0 (fun m => Tt1_0.all (ruleP m) && (u0.all (ruleP m) && (u1.all (ruleP m) && (u2.all (ruleP m) && true)))) = true := by kernel_rfl
theorem Rt1_0 (q c : Int) (ok : ∀ r ∈ Tt1_0, r.good (qv q c)) : isTrue (@callFF (SVq q c) (@SymT.mk (SVq q c) Tt1_0 ok) Tryz.prog ⟨506, 508, 376⟩ (primOr (prim1 10 primTrue) (primOr (modPrim 0) (segPrim [15, 19, 26, 25] Lt1_0))) 100000 200 4 [sv 0, sv 1, .bool true] m1) = true := by kernel_rfl
theorem Wt1_0 (q c : Int) (hc : Int.emod c 8 = 0) (hk : kR (mN q) = 0) (w : World) :
    Calls Tryz.prog 4 ⟨[.int .i64 q, .int .i64 c, .bool true]⟩ w fun e w' => e = .returned (.bool true) ∧ Below w.heap.size w w' := by
  have hh := chk_at Ct1_0 hk
  simp only [Bool.and_eq_true] at hh
  obtain ⟨h0, h1, h2, h3, _⟩ := hh
  letI SV : SymV := SVq q c
  letI ST : SymT := ⟨Tt1_0, all_good h0⟩
  exact true_call pok (primOr_ok (prim1_ok awake) (primOr_ok (modPrim_ok q c 0 (modC0 q c hc)) (segPrim_ok (l := Lt1_0) (List.forall_mem_cons.2 ⟨q0good q c h1, (List.forall_mem_cons.2 ⟨q1good q c h2, (List.forall_mem_cons.2 ⟨q2good q c h3, (fun _ h => by cases h)⟩)⟩)⟩)))) (Rt1_0 q c (all_good h0))
    (.cons _ _ _ _ (.sym _ _ _ _ rfl) (.cons _ _ _ _ (.sym _ _ _ _ rfl) (.cons _ _ _ _ (.bool _) .nil))) w
def Tt1_1 : List SRule := [.bin .add (iv 1) (sv 5) (sv 6), .bin .leq (iv 10) (sv 6) (.bool true)]
def Lt1_1 : List Seg := [q0, q3]
theorem Ct1_1 : chk kR 1 (fun m => Tt1_1.all (ruleP m) && (u0.all (ruleP m) && (u3.all (ruleP m) && true))) = true := by kernel_rfl
theorem Rt1_1 (q c : Int) (ok : ∀ r ∈ Tt1_1, r.good (qv q c)) : isTrue (@callFF (SVq q c) (@SymT.mk (SVq q c) Tt1_1 ok) Tryz.prog ⟨506, 508, 376⟩ (primOr (prim1 10 primTrue) (primOr (modPrim 0) (segPrim [15, 19, 26, 25] Lt1_1))) 100000 200 4 [sv 0, sv 1, .bool true] m1) = true := by kernel_rfl
theorem Wt1_1 (q c : Int) (hc : Int.emod c 8 = 0) (hk : kR (mN q) = 1) (w : World) :
    Calls Tryz.prog 4 ⟨[.int .i64 q, .int .i64 c, .bool true]⟩ w fun e w' => e = .returned (.bool true) ∧ Below w.heap.size w w' := by
  have hh := chk_at Ct1_1 hk
  simp only [Bool.and_eq_true] at hh
  obtain ⟨h0, h1, h2, _⟩ := hh
  letI SV : SymV := SVq q c
  letI ST : SymT := ⟨Tt1_1, all_good h0⟩
  exact true_call pok (primOr_ok (prim1_ok awake) (primOr_ok (modPrim_ok q c 0 (modC0 q c hc)) (segPrim_ok (l := Lt1_1) (List.forall_mem_cons.2 ⟨q0good q c h1, (List.forall_mem_cons.2 ⟨q3good q c h2, (fun _ h => by cases h)⟩)⟩)))) (Rt1_1 q c (all_good h0))
    (.cons _ _ _ _ (.sym _ _ _ _ rfl) (.cons _ _ _ _ (.sym _ _ _ _ rfl) (.cons _ _ _ _ (.bool _) .nil))) w
def Tt1_2 : List SRule := [.bin .add (iv 1) (sv 5) (sv 6), .bin .leq (iv 10) (sv 6) (.bool true)]
def Lt1_2 : List Seg := [q0, q3]
theorem Ct1_2 : chk kR 2 (fun m => Tt1_2.all (ruleP m) && (u0.all (ruleP m) && (u3.all (ruleP m) && true))) = true := by kernel_rfl
theorem Rt1_2 (q c : Int) (ok : ∀ r ∈ Tt1_2, r.good (qv q c)) : isTrue (@callFF (SVq q c) (@SymT.mk (SVq q c) Tt1_2 ok) Tryz.prog ⟨506, 508, 376⟩ (primOr (prim1 10 primTrue) (primOr (modPrim 0) (segPrim [15, 19, 26, 25] Lt1_2))) 100000 200 4 [sv 0, sv 1, .bool true] m1) = true := by kernel_rfl
theorem Wt1_2 (q c : Int) (hc : Int.emod c 8 = 0) (hk : kR (mN q) = 2) (w : World) :
    Calls Tryz.prog 4 ⟨[.int .i64 q, .int .i64 c, .bool true]⟩ w fun e w' => e = .returned (.bool true) ∧ Below w.heap.size w w' := by
  have hh := chk_at Ct1_2 hk
  simp only [Bool.and_eq_true] at hh
  obtain ⟨h0, h1, h2, _⟩ := hh
  letI SV : SymV := SVq q c
  letI ST : SymT := ⟨Tt1_2, all_good h0⟩
  exact true_call pok (primOr_ok (prim1_ok awake) (primOr_ok (modPrim_ok q c 0 (modC0 q c hc)) (segPrim_ok (l := Lt1_2) (List.forall_mem_cons.2 ⟨q0good q c h1, (List.forall_mem_cons.2 ⟨q3good q c h2, (fun _ h => by cases h)⟩)⟩)))) (Rt1_2 q c (all_good h0))
    (.cons _ _ _ _ (.sym _ _ _ _ rfl) (.cons _ _ _ _ (.sym _ _ _ _ rfl) (.cons _ _ _ _ (.bool _) .nil))) w
def Tt1_3 : List SRule := [.bin .add (iv 1) (sv 5) (sv 6), .bin .leq (iv 10) (sv 6) (.bool true)]
def Lt1_3 : List Seg := [q0, q3]
theorem Ct1_3 : chk kR 3 (fun m => Tt1_3.all (ruleP m) && (u0.all (ruleP m) && (u3.all (ruleP m) && true))) = true := by kernel_rfl
theorem Rt1_3 (q c : Int) (ok : ∀ r ∈ Tt1_3, r.good (qv q c)) : isTrue (@callFF (SVq q c) (@SymT.mk (SVq q c) Tt1_3 ok) Tryz.prog ⟨506, 508, 376⟩ (primOr (prim1 10 primTrue) (primOr (modPrim 0) (segPrim [15, 19, 26, 25] Lt1_3))) 100000 200 4 [sv 0, sv 1, .bool true] m1) = true := by kernel_rfl
theorem Wt1_3 (q c : Int) (hc : Int.emod c 8 = 0) (hk : kR (mN q) = 3) (w : World) :
    Calls Tryz.prog 4 ⟨[.int .i64 q, .int .i64 c, .bool true]⟩ w fun e w' => e = .returned (.bool true) ∧ Below w.heap.size w w' := by
  have hh := chk_at Ct1_3 hk
  simp only [Bool.and_eq_true] at hh
  obtain ⟨h0, h1, h2, _⟩ := hh
  letI SV : SymV := SVq q c
  letI ST : SymT := ⟨Tt1_3, all_good h0⟩
  exact true_call pok (primOr_ok (prim1_ok awake) (primOr_ok (modPrim_ok q c 0 (modC0 q c hc)) (segPrim_ok (l := Lt1_3) (List.forall_mem_cons.2 ⟨q0good q c h1, (List.forall_mem_cons.2 ⟨q3good q c h2, (fun _ h => by cases h)⟩)⟩)))) (Rt1_3 q c (all_good h0))
    (.cons _ _ _ _ (.sym _ _ _ _ rfl) (.cons _ _ _ _ (.sym _ _ _ _ rfl) (.cons _ _ _ _ (.bool _) .nil))) w
def Tt1_4 : List SRule := [.bin .add (iv 1) (sv 5) (sv 6), .bin .leq (iv 10) (sv 6) (.bool true)]
def Lt1_4 : List Seg := [q0, q3]
theorem Ct1_4 : chk kR 4 (fun m => Tt1_4.all (ruleP m) && (u0.all (ruleP m) && (u3.all (ruleP m) && true))) = true := by kernel_rfl
theorem Rt1_4 (q c : Int) (ok : ∀ r ∈ Tt1_4, r.good (qv q c)) : isTrue (@callFF (SVq q c) (@SymT.mk (SVq q c) Tt1_4 ok) Tryz.prog ⟨506, 508, 376⟩ (primOr (prim1 10 primTrue) (primOr (modPrim 0) (segPrim [15, 19, 26, 25] Lt1_4))) 100000 200 4 [sv 0, sv 1, .bool true] m1) = true := by kernel_rfl
theorem Wt1_4 (q c : Int) (hc : Int.emod c 8 = 0) (hk : kR (mN q) = 4) (w : World) :
    Calls Tryz.prog 4 ⟨[.int .i64 q, .int .i64 c, .bool true]⟩ w fun e w' => e = .returned (.bool true) ∧ Below w.heap.size w w' := by
  have hh := chk_at Ct1_4 hk
  simp only [Bool.and_eq_true] at hh
  obtain ⟨h0, h1, h2, _⟩ := hh
  letI SV : SymV := SVq q c
  letI ST : SymT := ⟨Tt1_4, all_good h0⟩
  exact true_call pok (primOr_ok (prim1_ok awake) (primOr_ok (modPrim_ok q c 0 (modC0 q c hc)) (segPrim_ok (l := Lt1_4) (List.forall_mem_cons.2 ⟨q0good q c h1, (List.forall_mem_cons.2 ⟨q3good q c h2, (fun _ h => by cases h)⟩)⟩)))) (Rt1_4 q c (all_good h0))
    (.cons _ _ _ _ (.sym _ _ _ _ rfl) (.cons _ _ _ _ (.sym _ _ _ _ rfl) (.cons _ _ _ _ (.bool _) .nil))) w
def Tt1_5 : List SRule := [.bin .add (iv 1) (sv 5) (sv 6), .bin .leq (iv 10) (sv 6) (.bool true)]
def Lt1_5 : List Seg := [q0, q3]
theorem Ct1_5 : chk kR 5 (fun m => Tt1_5.all (ruleP m) && (u0.all (ruleP m) && (u3.all (ruleP m) && true))) = true := by kernel_rfl
theorem Rt1_5 (q c : Int) (ok : ∀ r ∈ Tt1_5, r.good (qv q c)) : isTrue (@callFF (SVq q c) (@SymT.mk (SVq q c) Tt1_5 ok) Tryz.prog ⟨506, 508, 376⟩ (primOr (prim1 10 primTrue) (primOr (modPrim 0) (segPrim [15, 19, 26, 25] Lt1_5))) 100000 200 4 [sv 0, sv 1, .bool true] m1) = true := by kernel_rfl
theorem Wt1_5 (q c : Int) (hc : Int.emod c 8 = 0) (hk : kR (mN q) = 5) (w : World) :
    Calls Tryz.prog 4 ⟨[.int .i64 q, .int .i64 c, .bool true]⟩ w fun e w' => e = .returned (.bool true) ∧ Below w.heap.size w w' := by
  have hh := chk_at Ct1_5 hk
  simp only [Bool.and_eq_true] at hh
  obtain ⟨h0, h1, h2, _⟩ := hh
  letI SV : SymV := SVq q c
  letI ST : SymT := ⟨Tt1_5, all_good h0⟩
  exact true_call pok (primOr_ok (prim1_ok awake) (primOr_ok (modPrim_ok q c 0 (modC0 q c hc)) (segPrim_ok (l := Lt1_5) (List.forall_mem_cons.2 ⟨q0good q c h1, (List.forall_mem_cons.2 ⟨q3good q c h2, (fun _ h => by cases h)⟩)⟩)))) (Rt1_5 q c (all_good h0))
    (.cons _ _ _ _ (.sym _ _ _ _ rfl) (.cons _ _ _ _ (.sym _ _ _ _ rfl) (.cons _ _ _ _ (.bool _) .nil))) w
def Tt1_6 : List SRule := [.bin .add (iv 1) (sv 5) (sv 6), .bin .leq (iv 10) (sv 6) (.bool true)]
def Lt1_6 : List Seg := [q0, q3]
theorem Ct1_6 : chk kR 6 (fun m => Tt1_6.all (ruleP m) && (u0.all (ruleP m) && (u3.all (ruleP m) && true))) = true := by kernel_rfl
theorem Rt1_6 (q c : Int) (ok : ∀ r ∈ Tt1_6, r.good (qv q c)) : isTrue (@callFF (SVq q c) (@SymT.mk (SVq q c) Tt1_6 ok) Tryz.prog ⟨506, 508, 376⟩ (primOr (prim1 10 primTrue) (primOr (modPrim 0) (segPrim [15, 19, 26, 25] Lt1_6))) 100000 200 4 [sv 0, sv 1, .bool true] m1) = true := by kernel_rfl
theorem Wt1_6 (q c : Int) (hc : Int.emod c 8 = 0) (hk : kR (mN q) = 6) (w : World) :
    Calls Tryz.prog 4 ⟨[.int .i64 q, .int .i64 c, .bool true]⟩ w fun e w' => e = .returned (.bool true) ∧ Below w.heap.size w w' := by
  have hh := chk_at Ct1_6 hk
  simp only [Bool.and_eq_true] at hh
  obtain ⟨h0, h1, h2, _⟩ := hh
  letI SV : SymV := SVq q c
  letI ST : SymT := ⟨Tt1_6, all_good h0⟩
  exact true_call pok (primOr_ok (prim1_ok awake) (primOr_ok (modPrim_ok q c 0 (modC0 q c hc)) (segPrim_ok (l := Lt1_6) (List.forall_mem_cons.2 ⟨q0good q c h1, (List.forall_mem_cons.2 ⟨q3good q c h2, (fun _ h => by cases h)⟩)⟩)))) (Rt1_6 q c (all_good h0))
    (.cons _ _ _ _ (.sym _ _ _ _ rfl) (.cons _ _ _ _ (.sym _ _ _ _ rfl) (.cons _ _ _ _ (.bool _) .nil))) w
def Tt1_7 : List SRule := [.bin .add (iv 1) (sv 5) (sv 6), .bin .leq (iv 10) (sv 6) (.bool true)]
def Lt1_7 : List Seg := [q0, q3]
theorem Ct1_7 : chk kR 7 (fun m => Tt1_7.all (ruleP m) && (u0.all (ruleP m) && (u3.all (ruleP m) && true))) = true := by kernel_rfl
theorem Rt1_7 (q c : Int) (ok : ∀ r ∈ Tt1_7, r.good (qv q c)) : isTrue (@callFF (SVq q c) (@SymT.mk (SVq q c) Tt1_7 ok) Tryz.prog ⟨506, 508, 376⟩ (primOr (prim1 10 primTrue) (primOr (modPrim 0) (segPrim [15, 19, 26, 25] Lt1_7))) 100000 200 4 [sv 0, sv 1, .bool true] m1) = true := by kernel_rfl
theorem Wt1_7 (q c : Int) (hc : Int.emod c 8 = 0) (hk : kR (mN q) = 7) (w : World) :
    Calls Tryz.prog 4 ⟨[.int .i64 q, .int .i64 c, .bool true]⟩ w fun e w' => e = .returned (.bool true) ∧ Below w.heap.size w w' := by
  have hh := chk_at Ct1_7 hk
  simp only [Bool.and_eq_true] at hh
  obtain ⟨h0, h1, h2, _⟩ := hh
  letI SV : SymV := SVq q c
  letI ST : SymT := ⟨Tt1_7, all_good h0⟩
  exact true_call pok (primOr_ok (prim1_ok awake) (primOr_ok (modPrim_ok q c 0 (modC0 q c hc)) (segPrim_ok (l := Lt1_7) (List.forall_mem_cons.2 ⟨q0good q c h1, (List.forall_mem_cons.2 ⟨q3good q c h2, (fun _ h => by cases h)⟩)⟩)))) (Rt1_7 q c (all_good h0))
    (.cons _ _ _ _ (.sym _ _ _ _ rfl) (.cons _ _ _ _ (.sym _ _ _ _ rfl) (.cons _ _ _ _ (.bool _) .nil))) w
def Tt1_8 : List SRule := [.bin .add (iv 1) (sv 5) (sv 6), .bin .leq (iv 10) (sv 6) (.bool true)]
def Lt1_8 : List Seg := [q0, q3]
theorem Ct1_8 : chk kR 8 (fun m => Tt1_8.all (ruleP m) && (u0.all (ruleP m) && (u3.all (ruleP m) && true))) = true := by kernel_rfl
theorem Rt1_8 (q c : Int) (ok : ∀ r ∈ Tt1_8, r.good (qv q c)) : isTrue (@callFF (SVq q c) (@SymT.mk (SVq q c) Tt1_8 ok) Tryz.prog ⟨506, 508, 376⟩ (primOr (prim1 10 primTrue) (primOr (modPrim 0) (segPrim [15, 19, 26, 25] Lt1_8))) 100000 200 4 [sv 0, sv 1, .bool true] m1) = true := by kernel_rfl
theorem Wt1_8 (q c : Int) (hc : Int.emod c 8 = 0) (hk : kR (mN q) = 8) (w : World) :
    Calls Tryz.prog 4 ⟨[.int .i64 q, .int .i64 c, .bool true]⟩ w fun e w' => e = .returned (.bool true) ∧ Below w.heap.size w w' := by
  have hh := chk_at Ct1_8 hk
  simp only [Bool.and_eq_true] at hh
  obtain ⟨h0, h1, h2, _⟩ := hh
  letI SV : SymV := SVq q c
  letI ST : SymT := ⟨Tt1_8, all_good h0⟩
  exact true_call pok (primOr_ok (prim1_ok awake) (primOr_ok (modPrim_ok q c 0 (modC0 q c hc)) (segPrim_ok (l := Lt1_8) (List.forall_mem_cons.2 ⟨q0good q c h1, (List.forall_mem_cons.2 ⟨q3good q c h2, (fun _ h => by cases h)⟩)⟩)))) (Rt1_8 q c (all_good h0))
    (.cons _ _ _ _ (.sym _ _ _ _ rfl) (.cons _ _ _ _ (.sym _ _ _ _ rfl) (.cons _ _ _ _ (.bool _) .nil))) w
def Tt2_0 : List SRule := [.bin .add (iv 1) (sv 5) (sv 6), .bin .leq (iv 10) (sv 6) (.bool false)]
def Lt2_0 : List Seg := [q0, q1, q2]
theorem Ct2_0 : chk kR 0 (fun m => Tt2_0.all (ruleP m) && (u0.all (ruleP m) && (u1.all (ruleP m) && (u2.all (ruleP m) && true)))) = true := by kernel_rfl
theorem Rt2_0 (q c : Int) (ok : ∀ r ∈ Tt2_0, r.good (qv q c)) : isTrue (@callFF (SVq q c) (@SymT.mk (SVq q c) Tt2_0 ok) Tryz.prog ⟨506, 508, 376⟩ (primOr (prim1 10 primTrue) (primOr (modPrim 1) (segPrim [15, 19, 26, 25] Lt2_0))) 100000 200 4 [sv 0, sv 1, .bool true] m1) = true := by kernel_rfl
theorem Wt2_0 (q c : Int) (hc : Int.emod c 8 = 1) (hk : kR (mN q) = 0) (w : World) :
    Calls Tryz.prog 4 ⟨[.int .i64 q, .int .i64 c, .bool true]⟩ w fun e w' => e = .returned (.bool true) ∧ Below w.heap.size w w' := by
  have hh := chk_at Ct2_0 hk
  simp only [Bool.and_eq_true] at hh
  obtain ⟨h0, h1, h2, h3, _⟩ := hh
  letI SV : SymV := SVq q c
  letI ST : SymT := ⟨Tt2_0, all_good h0⟩
  exact true_call pok (primOr_ok (prim1_ok awake) (primOr_ok (modPrim_ok q c 1 (modC1 q c hc)) (segPrim_ok (l := Lt2_0) (List.forall_mem_cons.2 ⟨q0good q c h1, (List.forall_mem_cons.2 ⟨q1good q c h2, (List.forall_mem_cons.2 ⟨q2good q c h3, (fun _ h => by cases h)⟩)⟩)⟩)))) (Rt2_0 q c (all_good h0))
    (.cons _ _ _ _ (.sym _ _ _ _ rfl) (.cons _ _ _ _ (.sym _ _ _ _ rfl) (.cons _ _ _ _ (.bool _) .nil))) w
def Tt2_1 : List SRule := [.bin .add (iv 1) (sv 5) (sv 6), .bin .leq (iv 10) (sv 6) (.bool true), .bin .leq (iv 20) (sv 6) (.bool false)]
def Lt2_1 : List Seg := [q0, q3, q4, q5]
theorem Ct2_1 : chk kR 1 (fun m => Tt2_1.all (ruleP m) && (u0.all (ruleP m) && (u3.all (ruleP m) && (u4.all (ruleP m) && (u5.all (ruleP m) && true))))) = true := by kernel_rfl
theorem Rt2_1 (q c : Int) (ok : ∀ r ∈ Tt2_1, r.good (qv q c)) : isTrue (@callFF (SVq q c) (@SymT.mk (SVq q c) Tt2_1 ok) Tryz.prog ⟨506, 508, 376⟩ (primOr (prim1 10 primTrue) (primOr (modPrim 1) (segPrim [15, 19, 26, 25] Lt2_1))) 100000 200 4 [sv 0, sv 1, .bool true] m1) = true := by kernel_rfl
theorem Wt2_1 (q c : Int) (hc : Int.emod c 8 = 1) (hk : kR (mN q) = 1) (w : World) :
    Calls Tryz.prog 4 ⟨[.int .i64 q, .int .i64 c, .bool true]⟩ w fun e w' => e = .returned (.bool true) ∧ Below w.heap.size w w' := by
  have hh := chk_at Ct2_1 hk
  simp only [Bool.and_eq_true] at hh
  obtain ⟨h0, h1, h2, h3, h4, _⟩ := hh
  letI SV : SymV := SVq q c
  letI ST : SymT := ⟨Tt2_1, all_good h0⟩
  exact true_call pok (primOr_ok (prim1_ok awake) (primOr_ok (modPrim_ok q c 1 (modC1 q c hc)) (segPrim_ok (l := Lt2_1) (List.forall_mem_cons.2 ⟨q0good q c h1, (List.forall_mem_cons.2 ⟨q3good q c h2, (List.forall_mem_cons.2 ⟨q4good q c h3, (List.forall_mem_cons.2 ⟨q5good q c h4, (fun _ h => by cases h)⟩)⟩)⟩)⟩)))) (Rt2_1 q c (all_good h0))
    (.cons _ _ _ _ (.sym _ _ _ _ rfl) (.cons _ _ _ _ (.sym _ _ _ _ rfl) (.cons _ _ _ _ (.bool _) .nil))) w
def Tt2_2 : List SRule := [.bin .add (iv 1) (sv 5) (sv 6), .bin .leq (iv 10) (sv 6) (.bool true), .bin .leq (iv 20) (sv 6) (.bool true)]
def Lt2_2 : List Seg := [q0, q3, q6]
theorem Ct2_2 : chk kR 2 (fun m => Tt2_2.all (ruleP m) && (u0.all (ruleP m) && (u3.all (ruleP m) && (u6.all (ruleP m) && true)))) = true := by kernel_rfl
theorem Rt2_2 (q c : Int) (ok : ∀ r ∈ Tt2_2, r.good (qv q c)) : isTrue (@callFF (SVq q c) (@SymT.mk (SVq q c) Tt2_2 ok) Tryz.prog ⟨506, 508, 376⟩ (primOr (prim1 10 primTrue) (primOr (modPrim 1) (segPrim [15, 19, 26, 25] Lt2_2))) 100000 200 4 [sv 0, sv 1, .bool true] m1) = true := by kernel_rfl
theorem Wt2_2 (q c : Int) (hc : Int.emod c 8 = 1) (hk : kR (mN q) = 2) (w : World) :
    Calls Tryz.prog 4 ⟨[.int .i64 q, .int .i64 c, .bool true]⟩ w fun e w' => e = .returned (.bool true) ∧ Below w.heap.size w w' := by
  have hh := chk_at Ct2_2 hk
  simp only [Bool.and_eq_true] at hh
  obtain ⟨h0, h1, h2, h3, _⟩ := hh
  letI SV : SymV := SVq q c
  letI ST : SymT := ⟨Tt2_2, all_good h0⟩
  exact true_call pok (primOr_ok (prim1_ok awake) (primOr_ok (modPrim_ok q c 1 (modC1 q c hc)) (segPrim_ok (l := Lt2_2) (List.forall_mem_cons.2 ⟨q0good q c h1, (List.forall_mem_cons.2 ⟨q3good q c h2, (List.forall_mem_cons.2 ⟨q6good q c h3, (fun _ h => by cases h)⟩)⟩)⟩)))) (Rt2_2 q c (all_good h0))
    (.cons _ _ _ _ (.sym _ _ _ _ rfl) (.cons _ _ _ _ (.sym _ _ _ _ rfl) (.cons _ _ _ _ (.bool _) .nil))) w
def Tt2_3 : List SRule := [.bin .add (iv 1) (sv 5) (sv 6), .bin .leq (iv 10) (sv 6) (.bool true), .bin .leq (iv 20) (sv 6) (.bool true)]
def Lt2_3 : List Seg := [q0, q3, q6]
theorem Ct2_3 : chk kR 3 (fun m => Tt2_3.all (ruleP m) && (u0.all (ruleP m) && (u3.all (ruleP m) && (u6.all (ruleP m) && true)))) = true := by kernel_rfl
theorem Rt2_3 (q c : Int) (ok : ∀ r ∈ Tt2_3, r.good (qv q c)) : isTrue (@callFF (SVq q c) (@SymT.mk (SVq q c) Tt2_3 ok) Tryz.prog ⟨506, 508, 376⟩ (primOr (prim1 10 primTrue) (primOr (modPrim 1) (segPrim [15, 19, 26, 25] Lt2_3))) 100000 200 4 [sv 0, sv 1, .bool true] m1) = true := by kernel_rfl
theorem Wt2_3 (q c : Int) (hc : Int.emod c 8 = 1) (hk : kR (mN q) = 3) (w : World) :
    Calls Tryz.prog 4 ⟨[.int .i64 q, .int .i64 c, .bool true]⟩ w fun e w' => e = .returned (.bool true) ∧ Below w.heap.size w w' := by
  have hh := chk_at Ct2_3 hk
  simp only [Bool.and_eq_true] at hh
  obtain ⟨h0, h1, h2, h3, _⟩ := hh
  letI SV : SymV := SVq q c
  letI ST : SymT := ⟨Tt2_3, all_good h0⟩
  exact true_call pok (primOr_ok (prim1_ok awake) (primOr_ok (modPrim_ok q c 1 (modC1 q c hc)) (segPrim_ok (l := Lt2_3) (List.forall_mem_cons.2 ⟨q0good q c h1, (List.forall_mem_cons.2 ⟨q3good q c h2, (List.forall_mem_cons.2 ⟨q6good q c h3, (fun _ h => by cases h)⟩)⟩)⟩)))) (Rt2_3 q c (all_good h0))
    (.cons _ _ _ _ (.sym _ _ _ _ rfl) (.cons _ _ _ _ (.sym _ _ _ _ rfl) (.cons _ _ _ _ (.bool _) .nil))) w
def Tt2_4 : List SRule := [.bin .add (iv 1) (sv 5) (sv 6), .bin .leq (iv 10) (sv 6) (.bool true), .bin .leq (iv 20) (sv 6) (.bool true)]
def Lt2_4 : List Seg := [q0, q3, q6]
theorem Ct2_4 : chk kR 4 (fun m => Tt2_4.all (ruleP m) && (u0.all (ruleP m) && (u3.all (ruleP m) && (u6.all (ruleP m) && true)))) = true := by kernel_rfl
theorem Rt2_4 (q c : Int) (ok : ∀ r ∈ Tt2_4, r.good (qv q c)) : isTrue (@callFF (SVq q c) (@SymT.mk (SVq q c) Tt2_4 ok) Tryz.prog ⟨506, 508, 376⟩ (primOr (prim1 10 primTrue) (primOr (modPrim 1) (segPrim [15, 19, 26, 25] Lt2_4))) 100000 200 4 [sv 0, sv 1, .bool true] m1) = true := by kernel_rfl
theorem Wt2_4 (q c : Int) (hc : Int.emod c 8 = 1) (hk : kR (mN q) = 4) (w : World) :
    Calls Tryz.prog 4 ⟨[.int .i64 q, .int .i64 c, .bool true]⟩ w fun e w' => e = .returned (.bool true) ∧ Below w.heap.size w w' := by
  have hh := chk_at Ct2_4 hk
  simp only [Bool.and_eq_true] at hh
  obtain ⟨h0, h1, h2, h3, _⟩ := hh
  letI SV : SymV := SVq q c
  letI ST : SymT := ⟨Tt2_4, all_good h0⟩
  exact true_call pok (primOr_ok (prim1_ok awake) (primOr_ok (modPrim_ok q c 1 (modC1 q c hc)) (segPrim_ok (l := Lt2_4) (List.forall_mem_cons.2 ⟨q0good q c h1, (List.forall_mem_cons.2 ⟨q3good q c h2, (List.forall_mem_cons.2 ⟨q6good q c h3, (fun _ h => by cases h)⟩)⟩)⟩)))) (Rt2_4 q c (all_good h0))
    (.cons _ _ _ _ (.sym _ _ _ _ rfl) (.cons _ _ _ _ (.sym _ _ _ _ rfl) (.cons _ _ _ _ (.bool _) .nil))) w
def Tt2_5 : List SRule := [.bin .add (iv 1) (sv 5) (sv 6), .bin .leq (iv 10) (sv 6) (.bool true), .bin .leq (iv 20) (sv 6) (.bool true)]
def Lt2_5 : List Seg := [q0, q3, q6]
theorem Ct2_5 : chk kR 5 (fun m => Tt2_5.all (ruleP m) && (u0.all (ruleP m) && (u3.all (ruleP m) && (u6.all (ruleP m) && true)))) = true := by kernel_rfl
theorem Rt2_5 (q c : Int) (ok : ∀ r ∈ Tt2_5, r.good (qv q c)) : isTrue (@callFF (SVq q c) (@SymT.mk (SVq q c) Tt2_5 ok) Tryz.prog ⟨506, 508, 376⟩ (primOr (prim1 10 primTrue) (primOr (modPrim 1) (segPrim [15, 19, 26, 25] Lt2_5))) 100000 200 4 [sv 0, sv 1, .bool true] m1) = true := by kernel_rfl
theorem Wt2_5 (q c : Int) (hc : Int.emod c 8 = 1) (hk : kR (mN q) = 5) (w : World) :
    Calls Tryz.prog 4 ⟨[.int .i64 q, .int .i64 c, .bool true]⟩ w fun e w' => e = .returned (.bool true) ∧ Below w.heap.size w w' := by
  have hh := chk_at Ct2_5 hk
  simp only [Bool.and_eq_true] at hh
  obtain ⟨h0, h1, h2, h3, _⟩ := hh
  letI SV : SymV := SVq q c
  letI ST : SymT := ⟨Tt2_5, all_good h0⟩
  exact true_call pok (primOr_ok (prim1_ok awake) (primOr_ok (modPrim_ok q c 1 (modC1 q c hc)) (segPrim_ok (l := Lt2_5) (List.forall_mem_cons.2 ⟨q0good q c h1, (List.forall_mem_cons.2 ⟨q3good q c h2, (List.forall_mem_cons.2 ⟨q6good q c h3, (fun _ h => by cases h)⟩)⟩)⟩)))) (Rt2_5 q c (all_good h0))
    (.cons _ _ _ _ (.sym _ _ _ _ rfl) (.cons _ _ _ _ (.sym _ _ _ _ rfl) (.cons _ _ _ _ (.bool _) .nil))) w
def Tt2_6 : List SRule := [.bin .add (iv 1) (sv 5) (sv 6), .bin .leq (iv 10) (sv 6) (.bool true), .bin .leq (iv 20) (sv 6) (.bool true)]
def Lt2_6 : List Seg := [q0, q3, q6]
theorem Ct2_6 : chk kR 6 (fun m => Tt2_6.all (ruleP m) && (u0.all (ruleP m) && (u3.all (ruleP m) && (u6.all (ruleP m) && true)))) = true := by kernel_rfl
theorem Rt2_6 (q c : Int) (ok : ∀ r ∈ Tt2_6, r.good (qv q c)) : isTrue (@callFF (SVq q c) (@SymT.mk (SVq q c) Tt2_6 ok) Tryz.prog ⟨506, 508, 376⟩ (primOr (prim1 10 primTrue) (primOr (modPrim 1) (segPrim [15, 19, 26, 25] Lt2_6))) 100000 200 4 [sv 0, sv 1, .bool true] m1) = true := by kernel_rfl
theorem Wt2_6 (q c : Int) (hc : Int.emod c 8 = 1) (hk : kR (mN q) = 6) (w : World) :
    Calls Tryz.prog 4 ⟨[.int .i64 q, .int .i64 c, .bool true]⟩ w fun e w' => e = .returned (.bool true) ∧ Below w.heap.size w w' := by
  have hh := chk_at Ct2_6 hk
  simp only [Bool.and_eq_true] at hh
  obtain ⟨h0, h1, h2, h3, _⟩ := hh
  letI SV : SymV := SVq q c
  letI ST : SymT := ⟨Tt2_6, all_good h0⟩
  exact true_call pok (primOr_ok (prim1_ok awake) (primOr_ok (modPrim_ok q c 1 (modC1 q c hc)) (segPrim_ok (l := Lt2_6) (List.forall_mem_cons.2 ⟨q0good q c h1, (List.forall_mem_cons.2 ⟨q3good q c h2, (List.forall_mem_cons.2 ⟨q6good q c h3, (fun _ h => by cases h)⟩)⟩)⟩)))) (Rt2_6 q c (all_good h0))
    (.cons _ _ _ _ (.sym _ _ _ _ rfl) (.cons _ _ _ _ (.sym _ _ _ _ rfl) (.cons _ _ _ _ (.bool _) .nil))) w
def Tt2_7 : List SRule := [.bin .add (iv 1) (sv 5) (sv 6), .bin .leq (iv 10) (sv 6) (.bool true), .bin .leq (iv 20) (sv 6) (.bool true)]
def Lt2_7 : List Seg := [q0, q3, q6]
theorem Ct2_7 : chk kR 7 (fun m => Tt2_7.all (ruleP m) && (u0.all (ruleP m) && (u3.all (ruleP m) && (u6.all (ruleP m) && true)))) = true := by kernel_rfl
theorem Rt2_7 (q c : Int) (ok : ∀ r ∈ Tt2_7, r.good (qv q c)) : isTrue (@callFF (SVq q c) (@SymT.mk (SVq q c) Tt2_7 ok) Tryz.prog ⟨506, 508, 376⟩ (primOr (prim1 10 primTrue) (primOr (modPrim 1) (segPrim [15, 19, 26, 25] Lt2_7))) 100000 200 4 [sv 0, sv 1, .bool true] m1) = true := by kernel_rfl
theorem Wt2_7 (q c : Int) (hc : Int.emod c 8 = 1) (hk : kR (mN q) = 7) (w : World) :
    Calls Tryz.prog 4 ⟨[.int .i64 q, .int .i64 c, .bool true]⟩ w fun e w' => e = .returned (.bool true) ∧ Below w.heap.size w w' := by
  have hh := chk_at Ct2_7 hk
  simp only [Bool.and_eq_true] at hh
  obtain ⟨h0, h1, h2, h3, _⟩ := hh
  letI SV : SymV := SVq q c
  letI ST : SymT := ⟨Tt2_7, all_good h0⟩
  exact true_call pok (primOr_ok (prim1_ok awake) (primOr_ok (modPrim_ok q c 1 (modC1 q c hc)) (segPrim_ok (l := Lt2_7) (List.forall_mem_cons.2 ⟨q0good q c h1, (List.forall_mem_cons.2 ⟨q3good q c h2, (List.forall_mem_cons.2 ⟨q6good q c h3, (fun _ h => by cases h)⟩)⟩)⟩)))) (Rt2_7 q c (all_good h0))
    (.cons _ _ _ _ (.sym _ _ _ _ rfl) (.cons _ _ _ _ (.sym _ _ _ _ rfl) (.cons _ _ _ _ (.bool _) .nil))) w
def Tt2_8 : List SRule := [.bin .add (iv 1) (sv 5) (sv 6), .bin .leq (iv 10) (sv 6) (.bool true), .bin .leq (iv 20) (sv 6) (.bool true)]
def Lt2_8 : List Seg := [q0, q3, q6]
theorem Ct2_8 : chk kR 8 (fun m => Tt2_8.all (ruleP m) && (u0.all (ruleP m) && (u3.all (ruleP m) && (u6.all (ruleP m) && true)))) = true := by kernel_rfl
theorem Rt2_8 (q c : Int) (ok : ∀ r ∈ Tt2_8, r.good (qv q c)) : isTrue (@callFF (SVq q c) (@SymT.mk (SVq q c) Tt2_8 ok) Tryz.prog ⟨506, 508, 376⟩ (primOr (prim1 10 primTrue) (primOr (modPrim 1) (segPrim [15, 19, 26, 25] Lt2_8))) 100000 200 4 [sv 0, sv 1, .bool true] m1) = true := by kernel_rfl
theorem Wt2_8 (q c : Int) (hc : Int.emod c 8 = 1) (hk : kR (mN q) = 8) (w : World) :
    Calls Tryz.prog 4 ⟨[.int .i64 q, .int .i64 c, .bool true]⟩ w fun e w' => e = .returned (.bool true) ∧ Below w.heap.size w w' := by
  have hh := chk_at Ct2_8 hk
  simp only [Bool.and_eq_true] at hh
  obtain ⟨h0, h1, h2, h3, _⟩ := hh
  letI SV : SymV := SVq q c
  letI ST : SymT := ⟨Tt2_8, all_good h0⟩
  exact true_call pok (primOr_ok (prim1_ok awake) (primOr_ok (modPrim_ok q c 1 (modC1 q c hc)) (segPrim_ok (l := Lt2_8) (List.forall_mem_cons.2 ⟨q0good q c h1, (List.forall_mem_cons.2 ⟨q3good q c h2, (List.forall_mem_cons.2 ⟨q6good q c h3, (fun _ h => by cases h)⟩)⟩)⟩)))) (Rt2_8 q c (all_good h0))
    (.cons _ _ _ _ (.sym _ _ _ _ rfl) (.cons _ _ _ _ (.sym _ _ _ _ rfl) (.cons _ _ _ _ (.bool _) .nil))) w
def Tt3_0 : List SRule := [.bin .add (iv 1) (sv 5) (sv 6), .bin .leq (iv 10) (sv 6) (.bool false)]
def Lt3_0 : List Seg := [q0, q1, q2]
theorem Ct3_0 : chk kR 0 (fun m => Tt3_0.all (ruleP m) && (u0.all (ruleP m) && (u1.all (ruleP m) && (u2.all (ruleP m) && true)))) = true := by kernel_rfl
theorem Rt3_0 (q c : Int) (ok : ∀ r ∈ Tt3_0, r.good (qv q c)) : isTrue (@callFF (SVq q c) (@SymT.mk (SVq q c) Tt3_0 ok) Tryz.prog ⟨506, 508, 376⟩ (primOr (prim1 10 primTrue) (primOr (modPrim 2) (segPrim [15, 19, 26, 25] Lt3_0))) 100000 200 4 [sv 0, sv 1, .bool true] m1) = true := by kernel_rfl
theorem Wt3_0 (q c : Int) (hc : Int.emod c 8 = 2) (hk : kR (mN q) = 0) (w : World) :
    Calls Tryz.prog 4 ⟨[.int .i64 q, .int .i64 c, .bool true]⟩ w fun e w' => e = .returned (.bool true) ∧ Below w.heap.size w w' := by
  have hh := chk_at Ct3_0 hk
  simp only [Bool.and_eq_true] at hh
  obtain ⟨h0, h1, h2, h3, _⟩ := hh
  letI SV : SymV := SVq q c
  letI ST : SymT := ⟨Tt3_0, all_good h0⟩
  exact true_call pok (primOr_ok (prim1_ok awake) (primOr_ok (modPrim_ok q c 2 (modC2 q c hc)) (segPrim_ok (l := Lt3_0) (List.forall_mem_cons.2 ⟨q0good q c h1, (List.forall_mem_cons.2 ⟨q1good q c h2, (List.forall_mem_cons.2 ⟨q2good q c h3, (fun _ h => by cases h)⟩)⟩)⟩)))) (Rt3_0 q c (all_good h0))
    (.cons _ _ _ _ (.sym _ _ _ _ rfl) (.cons _ _ _ _ (.sym _ _ _ _ rfl) (.cons _ _ _ _ (.bool _) .nil))) w
def Tt3_1 : List SRule := [.bin .add (iv 1) (sv 5) (sv 6), .bin .leq (iv 10) (sv 6) (.bool true), .bin .leq (iv 20) (sv 6) (.bool false)]
def Lt3_1 : List Seg := [q0, q3, q4, q5]
theorem Ct3_1 : chk kR 1 (fun m => Tt3_1.all (ruleP m) && (u0.all (ruleP m) && (u3.all (ruleP m) && (u4.all (ruleP m) && (u5.all (ruleP m) && true))))) = true := by kernel_rfl
theorem Rt3_1 (q c : Int) (ok : ∀ r ∈ Tt3_1, r.good (qv q c)) : isTrue (@callFF (SVq q c) (@SymT.mk (SVq q c) Tt3_1 ok) Tryz.prog ⟨506, 508, 376⟩ (primOr (prim1 10 primTrue) (primOr (modPrim 2) (segPrim [15, 19, 26, 25] Lt3_1))) 100000 200 4 [sv 0, sv 1, .bool true] m1) = true := by kernel_rfl
theorem Wt3_1 (q c : Int) (hc : Int.emod c 8 = 2) (hk : kR (mN q) = 1) (w : World) :
    Calls Tryz.prog 4 ⟨[.int .i64 q, .int .i64 c, .bool true]⟩ w fun e w' => e = .returned (.bool true) ∧ Below w.heap.size w w' := by
  have hh := chk_at Ct3_1 hk
  simp only [Bool.and_eq_true] at hh
  obtain ⟨h0, h1, h2, h3, h4, _⟩ := hh
  letI SV : SymV := SVq q c
  letI ST : SymT := ⟨Tt3_1, all_good h0⟩
  exact true_call pok (primOr_ok (prim1_ok awake) (primOr_ok (modPrim_ok q c 2 (modC2 q c hc)) (segPrim_ok (l := Lt3_1) (List.forall_mem_cons.2 ⟨q0good q c h1, (List.forall_mem_cons.2 ⟨q3good q c h2, (List.forall_mem_cons.2 ⟨q4good q c h3, (List.forall_mem_cons.2 ⟨q5good q c h4, (fun _ h => by cases h)⟩)⟩)⟩)⟩)))) (Rt3_1 q c (all_good h0))
    (.cons _ _ _ _ (.sym _ _ _ _ rfl) (.cons _ _ _ _ (.sym _ _ _ _ rfl) (.cons _ _ _ _ (.bool _) .nil))) w
def Tt3_2 : List SRule := [.bin .add (iv 1) (sv 5) (sv 6), .bin .leq (iv 10) (sv 6) (.bool true), .bin .leq (iv 20) (sv 6) (.bool true), .bin .leq (iv 30) (sv 6) (.bool false)]
def Lt3_2 : List Seg := [q0, q3, q6, q7, q8]
theorem Ct3_2 : chk kR 2 (fun m => Tt3_2.all (ruleP m) && (u0.all (ruleP m) && (u3.all (ruleP m) && (u6.all (ruleP m) && (u7.all (ruleP m) && (u8.all (ruleP m) && true)))))) = true := by kernel_rfl
theorem Rt3_2 (q c : Int) (ok : ∀ r ∈ Tt3_2, r.good (qv q c)) : isTrue (@callFF (SVq q c) (@SymT.mk (SVq q c) Tt3_2 ok) Tryz.prog ⟨506, 508, 376⟩ (primOr (prim1 10 primTrue) (primOr (modPrim 2) (segPrim [15, 19, 26, 25] Lt3_2))) 100000 200 4 [sv 0, sv 1, .bool true] m1) = true := by kernel_rfl
theorem Wt3_2 (q c : Int) (hc : Int.emod c 8 = 2) (hk : kR (mN q) = 2) (w : World) :
    Calls Tryz.prog 4 ⟨[.int .i64 q, .int .i64 c, .bool true]⟩ w fun e w' => e = .returned (.bool true) ∧ Below w.heap.size w w' := by
  have hh := chk_at Ct3_2 hk
  simp only [Bool.and_eq_true] at hh
  obtain ⟨h0, h1, h2, h3, h4, h5, _⟩ := hh
  letI SV : SymV := SVq q c
  letI ST : SymT := ⟨Tt3_2, all_good h0⟩
  exact true_call pok (primOr_ok (prim1_ok awake) (primOr_ok (modPrim_ok q c 2 (modC2 q c hc)) (segPrim_ok (l := Lt3_2) (List.forall_mem_cons.2 ⟨q0good q c h1, (List.forall_mem_cons.2 ⟨q3good q c h2, (List.forall_mem_cons.2 ⟨q6good q c h3, (List.forall_mem_cons.2 ⟨q7good q c h4, (List.forall_mem_cons.2 ⟨q8good q c h5, (fun _ h => by cases h)⟩)⟩)⟩)⟩)⟩)))) (Rt3_2 q c (all_good h0))
    (.cons _ _ _ _ (.sym _ _ _ _ rfl) (.cons _ _ _ _ (.sym _ _ _ _ rfl) (.cons _ _ _ _ (.bool _) .nil))) w
def Tt3_3 : List SRule := [.bin .add (iv 1) (sv 5) (sv 6), .bin .leq (iv 10) (sv 6) (.bool true), .bin .leq (iv 20) (sv 6) (.bool true), .bin .leq (iv 30) (sv 6) (.bool true)]
def Lt3_3 : List Seg := [q0, q3, q6, q9]
theorem Ct3_3 : chk kR 3 (fun m => Tt3_3.all (ruleP m) && (u0.all (ruleP m) && (u3.all (ruleP m) && (u6.all (ruleP m) && (u9.all (ruleP m) && true))))) = true := by kernel_rfl
theorem Rt3_3 (q c : Int) (ok : ∀ r ∈ Tt3_3, r.good (qv q c)) : isTrue (@callFF (SVq q c) (@SymT.mk (SVq q c) Tt3_3 ok) Tryz.prog ⟨506, 508, 376⟩ (primOr (prim1 10 primTrue) (primOr (modPrim 2) (segPrim [15, 19, 26, 25] Lt3_3))) 100000 200 4 [sv 0, sv 1, .bool true] m1) = true := by kernel_rfl
theorem Wt3_3 (q c : Int) (hc : Int.emod c 8 = 2) (hk : kR (mN q) = 3) (w : World) :
    Calls Tryz.prog 4 ⟨[.int .i64 q, .int .i64 c, .bool true]⟩ w fun e w' => e = .returned (.bool true) ∧ Below w.heap.size w w' := by
  have hh := chk_at Ct3_3 hk
  simp only [Bool.and_eq_true] at hh
  obtain ⟨h0, h1, h2, h3, h4, _⟩ := hh
  letI SV : SymV := SVq q c
  letI ST : SymT := ⟨Tt3_3, all_good h0⟩
  exact true_call pok (primOr_ok (prim1_ok awake) (primOr_ok (modPrim_ok q c 2 (modC2 q c hc)) (segPrim_ok (l := Lt3_3) (List.forall_mem_cons.2 ⟨q0good q c h1, (List.forall_mem_cons.2 ⟨q3good q c h2, (List.forall_mem_cons.2 ⟨q6good q c h3, (List.forall_mem_cons.2 ⟨q9good q c h4, (fun _ h => by cases h)⟩)⟩)⟩)⟩)))) (Rt3_3 q c (all_good h0))
    (.cons _ _ _ _ (.sym _ _ _ _ rfl) (.cons _ _ _ _ (.sym _ _ _ _ rfl) (.cons _ _ _ _ (.bool _) .nil))) w
def Tt3_4 : List SRule := [.bin .add (iv 1) (sv 5) (sv 6), .bin .leq (iv 10) (sv 6) (.bool true), .bin .leq (iv 20) (sv 6) (.bool true), .bin .leq (iv 30) (sv 6) (.bool true)]
def Lt3_4 : List Seg := [q0, q3, q6, q9]
theorem Ct3_4 : chk kR 4 (fun m => Tt3_4.all (ruleP m) && (u0.all (ruleP m) && (u3.all (ruleP m) && (u6.all (ruleP m) && (u9.all (ruleP m) && true))))) = true := by kernel_rfl
theorem Rt3_4 (q c : Int) (ok : ∀ r ∈ Tt3_4, r.good (qv q c)) : isTrue (@callFF (SVq q c) (@SymT.mk (SVq q c) Tt3_4 ok) Tryz.prog ⟨506, 508, 376⟩ (primOr (prim1 10 primTrue) (primOr (modPrim 2) (segPrim [15, 19, 26, 25] Lt3_4))) 100000 200 4 [sv 0, sv 1, .bool true] m1) = true := by kernel_rfl
theorem Wt3_4 (q c : Int) (hc : Int.emod c 8 = 2) (hk : kR (mN q) = 4) (w : World) :
    Calls Tryz.prog 4 ⟨[.int .i64 q, .int .i64 c, .bool true]⟩ w fun e w' => e = .returned (.bool true) ∧ Below w.heap.size w w' := by
  have hh := chk_at Ct3_4 hk
  simp only [Bool.and_eq_true] at hh
  obtain ⟨h0, h1, h2, h3, h4, _⟩ := hh
  letI SV : SymV := SVq q c
  letI ST : SymT := ⟨Tt3_4, all_good h0⟩
  exact true_call pok (primOr_ok (prim1_ok awake) (primOr_ok (modPrim_ok q c 2 (modC2 q c hc)) (segPrim_ok (l := Lt3_4) (List.forall_mem_cons.2 ⟨q0good q c h1, (List.forall_mem_cons.2 ⟨q3good q c h2, (List.forall_mem_cons.2 ⟨q6good q c h3, (List.forall_mem_cons.2 ⟨q9good q c h4, (fun _ h => by cases h)⟩)⟩)⟩)⟩)))) (Rt3_4 q c (all_good h0))
    (.cons _ _ _ _ (.sym _ _ _ _ rfl) (.cons _ _ _ _ (.sym _ _ _ _ rfl) (.cons _ _ _ _ (.bool _) .nil))) w
def Tt3_5 : List SRule := [.bin .add (iv 1) (sv 5) (sv 6), .bin .leq (iv 10) (sv 6) (.bool true), .bin .leq (iv 20) (sv 6) (.bool true), .bin .leq (iv 30) (sv 6) (.bool true)]
def Lt3_5 : List Seg := [q0, q3, q6, q9]
theorem Ct3_5 : chk kR 5 (fun m => Tt3_5.all (ruleP m) && (u0.all (ruleP m) && (u3.all (ruleP m) && (u6.all (ruleP m) && (u9.all (ruleP m) && true))))) = true := by kernel_rfl
theorem Rt3_5 (q c : Int) (ok : ∀ r ∈ Tt3_5, r.good (qv q c)) : isTrue (@callFF (SVq q c) (@SymT.mk (SVq q c) Tt3_5 ok) Tryz.prog ⟨506, 508, 376⟩ (primOr (prim1 10 primTrue) (primOr (modPrim 2) (segPrim [15, 19, 26, 25] Lt3_5))) 100000 200 4 [sv 0, sv 1, .bool true] m1) = true := by kernel_rfl
theorem Wt3_5 (q c : Int) (hc : Int.emod c 8 = 2) (hk : kR (mN q) = 5) (w : World) :
    Calls Tryz.prog 4 ⟨[.int .i64 q, .int .i64 c, .bool true]⟩ w fun e w' => e = .returned (.bool true) ∧ Below w.heap.size w w' := by
  have hh := chk_at Ct3_5 hk
  simp only [Bool.and_eq_true] at hh
  obtain ⟨h0, h1, h2, h3, h4, _⟩ := hh
  letI SV : SymV := SVq q c
  letI ST : SymT := ⟨Tt3_5, all_good h0⟩
  exact true_call pok (primOr_ok (prim1_ok awake) (primOr_ok (modPrim_ok q c 2 (modC2 q c hc)) (segPrim_ok (l := Lt3_5) (List.forall_mem_cons.2 ⟨q0good q c h1, (List.forall_mem_cons.2 ⟨q3good q c h2, (List.forall_mem_cons.2 ⟨q6good q c h3, (List.forall_mem_cons.2 ⟨q9good q c h4, (fun _ h => by cases h)⟩)⟩)⟩)⟩)))) (Rt3_5 q c (all_good h0))
    (.cons _ _ _ _ (.sym _ _ _ _ rfl) (.cons _ _ _ _ (.sym _ _ _ _ rfl) (.cons _ _ _ _ (.bool _) .nil))) w
def Tt3_6 : List SRule := [.bin .add (iv 1) (sv 5) (sv 6), .bin .leq (iv 10) (sv 6) (.bool true), .bin .leq (iv 20) (sv 6) (.bool true), .bin .leq (iv 30) (sv 6) (.bool true)]
def Lt3_6 : List Seg := [q0, q3, q6, q9]
theorem Ct3_6 : chk kR 6 (fun m => Tt3_6.all (ruleP m) && (u0.all (ruleP m) && (u3.all (ruleP m) && (u6.all (ruleP m) && (u9.all (ruleP m) && true))))) = true := by kernel_rfl
theorem Rt3_6 (q c : Int) (ok : ∀ r ∈ Tt3_6, r.good (qv q c)) : isTrue (@callFF (SVq q c) (@SymT.mk (SVq q c) Tt3_6 ok) Tryz.prog ⟨506, 508, 376⟩ (primOr (prim1 10 primTrue) (primOr (modPrim 2) (segPrim [15, 19, 26, 25] Lt3_6))) 100000 200 4 [sv 0, sv 1, .bool true] m1) = true := by kernel_rfl
theorem Wt3_6 (q c : Int) (hc : Int.emod c 8 = 2) (hk : kR (mN q) = 6) (w : World) :
    Calls Tryz.prog 4 ⟨[.int .i64 q, .int .i64 c, .bool true]⟩ w fun e w' => e = .returned (.bool true) ∧ Below w.heap.size w w' := by
  have hh := chk_at Ct3_6 hk
  simp only [Bool.and_eq_true] at hh
  obtain ⟨h0, h1, h2, h3, h4, _⟩ := hh
  letI SV : SymV := SVq q c
  letI ST : SymT := ⟨Tt3_6, all_good h0⟩
  exact true_call pok (primOr_ok (prim1_ok awake) (primOr_ok (modPrim_ok q c 2 (modC2 q c hc)) (segPrim_ok (l := Lt3_6) (List.forall_mem_cons.2 ⟨q0good q c h1, (List.forall_mem_cons.2 ⟨q3good q c h2, (List.forall_mem_cons.2 ⟨q6good q c h3, (List.forall_mem_cons.2 ⟨q9good q c h4, (fun _ h => by cases h)⟩)⟩)⟩)⟩)))) (Rt3_6 q c (all_good h0))
    (.cons _ _ _ _ (.sym _ _ _ _ rfl) (.cons _ _ _ _ (.sym _ _ _ _ rfl) (.cons _ _ _ _ (.bool _) .nil))) w
def Tt3_7 : List SRule := [.bin .add (iv 1) (sv 5) (sv 6), .bin .leq (iv 10) (sv 6) (.bool true), .bin .leq (iv 20) (sv 6) (.bool true), .bin .leq (iv 30) (sv 6) (.bool true)]
def Lt3_7 : List Seg := [q0, q3, q6, q9]
theorem Ct3_7 : chk kR 7 (fun m => Tt3_7.all (ruleP m) && (u0.all (ruleP m) && (u3.all (ruleP m) && (u6.all (ruleP m) && (u9.all (ruleP m) && true))))) = true := by kernel_rfl
theorem Rt3_7 (q c : Int) (ok : ∀ r ∈ Tt3_7, r.good (qv q c)) : isTrue (@callFF (SVq q c) (@SymT.mk (SVq q c) Tt3_7 ok) Tryz.prog ⟨506, 508, 376⟩ (primOr (prim1 10 primTrue) (primOr (modPrim 2) (segPrim [15, 19, 26, 25] Lt3_7))) 100000 200 4 [sv 0, sv 1, .bool true] m1) = true := by kernel_rfl
theorem Wt3_7 (q c : Int) (hc : Int.emod c 8 = 2) (hk : kR (mN q) = 7) (w : World) :
    Calls Tryz.prog 4 ⟨[.int .i64 q, .int .i64 c, .bool true]⟩ w fun e w' => e = .returned (.bool true) ∧ Below w.heap.size w w' := by
  have hh := chk_at Ct3_7 hk
  simp only [Bool.and_eq_true] at hh
  obtain ⟨h0, h1, h2, h3, h4, _⟩ := hh
  letI SV : SymV := SVq q c
  letI ST : SymT := ⟨Tt3_7, all_good h0⟩
  exact true_call pok (primOr_ok (prim1_ok awake) (primOr_ok (modPrim_ok q c 2 (modC2 q c hc)) (segPrim_ok (l := Lt3_7) (List.forall_mem_cons.2 ⟨q0good q c h1, (List.forall_mem_cons.2 ⟨q3good q c h2, (List.forall_mem_cons.2 ⟨q6good q c h3, (List.forall_mem_cons.2 ⟨q9good q c h4, (fun _ h => by cases h)⟩)⟩)⟩)⟩)))) (Rt3_7 q c (all_good h0))
    (.cons _ _ _ _ (.sym _ _ _ _ rfl) (.cons _ _ _ _ (.sym _ _ _ _ rfl) (.cons _ _ _ _ (.bool _) .nil))) w
def Tt3_8 : List SRule := [.bin .add (iv 1) (sv 5) (sv 6), .bin .leq (iv 10) (sv 6) (.bool true), .bin .leq (iv 20) (sv 6) (.bool true), .bin .leq (iv 30) (sv 6) (.bool true)]
def Lt3_8 : List Seg := [q0, q3, q6, q9]
theorem Ct3_8 : chk kR 8 (fun m => Tt3_8.all (ruleP m) && (u0.all (ruleP m) && (u3.all (ruleP m) && (u6.all (ruleP m) && (u9.all (ruleP m) && true))))) = true := by kernel_rfl
theorem Rt3_8 (q c : Int) (ok : ∀ r ∈ Tt3_8, r.good (qv q c)) : isTrue (@callFF (SVq q c) (@SymT.mk (SVq q c) Tt3_8 ok) Tryz.prog ⟨506, 508, 376⟩ (primOr (prim1 10 primTrue) (primOr (modPrim 2) (segPrim [15, 19, 26, 25] Lt3_8))) 100000 200 4 [sv 0, sv 1, .bool true] m1) = true := by kernel_rfl
theorem Wt3_8 (q c : Int) (hc : Int.emod c 8 = 2) (hk : kR (mN q) = 8) (w : World) :
    Calls Tryz.prog 4 ⟨[.int .i64 q, .int .i64 c, .bool true]⟩ w fun e w' => e = .returned (.bool true) ∧ Below w.heap.size w w' := by
  have hh := chk_at Ct3_8 hk
  simp only [Bool.and_eq_true] at hh
  obtain ⟨h0, h1, h2, h3, h4, _⟩ := hh
  letI SV : SymV := SVq q c
  letI ST : SymT := ⟨Tt3_8, all_good h0⟩
  exact true_call pok (primOr_ok (prim1_ok awake) (primOr_ok (modPrim_ok q c 2 (modC2 q c hc)) (segPrim_ok (l := Lt3_8) (List.forall_mem_cons.2 ⟨q0good q c h1, (List.forall_mem_cons.2 ⟨q3good q c h2, (List.forall_mem_cons.2 ⟨q6good q c h3, (List.forall_mem_cons.2 ⟨q9good q c h4, (fun _ h => by cases h)⟩)⟩)⟩)⟩)))) (Rt3_8 q c (all_good h0))
    (.cons _ _ _ _ (.sym _ _ _ _ rfl) (.cons _ _ _ _ (.sym _ _ _ _ rfl) (.cons _ _ _ _ (.bool _) .nil))) w
def Tt4_0 : List SRule := [.bin .add (iv 1) (sv 5) (sv 6), .bin .leq (iv 10) (sv 6) (.bool false)]
def Lt4_0 : List Seg := [q0, q1, q2]
theorem Ct4_0 : chk kR 0 (fun m => Tt4_0.all (ruleP m) && (u0.all (ruleP m) && (u1.all (ruleP m) && (u2.all (ruleP m) && true)))) = true := by kernel_rfl
theorem Rt4_0 (q c : Int) (ok : ∀ r ∈ Tt4_0, r.good (qv q c)) : isTrue (@callFF (SVq q c) (@SymT.mk (SVq q c) Tt4_0 ok) Tryz.prog ⟨506, 508, 376⟩ (primOr (prim1 10 primTrue) (primOr (modPrim 3) (segPrim [15, 19, 26, 25] Lt4_0))) 100000 200 4 [sv 0, sv 1, .bool true] m1) = true := by kernel_rfl
theorem Wt4_0 (q c : Int) (hc : Int.emod c 8 = 3) (hk : kR (mN q) = 0) (w : World) :
    Calls Tryz.prog 4 ⟨[.int .i64 q, .int .i64 c, .bool true]⟩ w fun e w' => e = .returned (.bool true) ∧ Below w.heap.size w w' := by
  have hh := chk_at Ct4_0 hk
  simp only [Bool.and_eq_true] at hh
  obtain ⟨h0, h1, h2, h3, _⟩ := hh
  letI SV : SymV := SVq q c
  letI ST : SymT := ⟨Tt4_0, all_good h0⟩
  exact true_call pok (primOr_ok (prim1_ok awake) (primOr_ok (modPrim_ok q c 3 (modC3 q c hc)) (segPrim_ok (l := Lt4_0) (List.forall_mem_cons.2 ⟨q0good q c h1, (List.forall_mem_cons.2 ⟨q1good q c h2, (List.forall_mem_cons.2 ⟨q2good q c h3, (fun _ h => by cases h)⟩)⟩)⟩)))) (Rt4_0 q c (all_good h0))
    (.cons _ _ _ _ (.sym _ _ _ _ rfl) (.cons _ _ _ _ (.sym _ _ _ _ rfl) (.cons _ _ _ _ (.bool _) .nil))) w
def Tt4_1 : List SRule := [.bin .add (iv 1) (sv 5) (sv 6), .bin .leq (iv 10) (sv 6) (.bool true), .bin .leq (iv 20) (sv 6) (.bool false)]
def Lt4_1 : List Seg := [q0, q3, q4, q5]
theorem Ct4_1 : chk kR 1 (fun m => Tt4_1.all (ruleP m) && (u0.all (ruleP m) && (u3.all (ruleP m) && (u4.all (ruleP m) && (u5.all (ruleP m) && true))))) = true := by kernel_rfl
theorem Rt4_1 (q c : Int) (ok : ∀ r ∈ Tt4_1, r.good (qv q c)) : isTrue (@callFF (SVq q c) (@SymT.mk (SVq q c) Tt4_1 ok) Tryz.prog ⟨506, 508, 376⟩ (primOr (prim1 10 primTrue) (primOr (modPrim 3) (segPrim [15, 19, 26, 25] Lt4_1))) 100000 200 4 [sv 0, sv 1, .bool true] m1) = true := by kernel_rfl
theorem Wt4_1 (q c : Int) (hc : Int.emod c 8 = 3) (hk : kR (mN q) = 1) (w : World) :
    Calls Tryz.prog 4 ⟨[.int .i64 q, .int .i64 c, .bool true]⟩ w fun e w' => e = .returned (.bool true) ∧ Below w.heap.size w w' := by
  have hh := chk_at Ct4_1 hk
  simp only [Bool.and_eq_true] at hh
  obtain ⟨h0, h1, h2, h3, h4, _⟩ := hh
  letI SV : SymV := SVq q c
  letI ST : SymT := ⟨Tt4_1, all_good h0⟩
  exact true_call pok (primOr_ok (prim1_ok awake) (primOr_ok (modPrim_ok q c 3 (modC3 q c hc)) (segPrim_ok (l := Lt4_1) (List.forall_mem_cons.2 ⟨q0good q c h1, (List.forall_mem_cons.2 ⟨q3good q c h2, (List.forall_mem_cons.2 ⟨q4good q c h3, (List.forall_mem_cons.2 ⟨q5good q c h4, (fun _ h => by cases h)⟩)⟩)⟩)⟩)))) (Rt4_1 q c (all_good h0))
    (.cons _ _ _ _ (.sym _ _ _ _ rfl) (.cons _ _ _ _ (.sym _ _ _ _ rfl) (.cons _ _ _ _ (.bool _) .nil))) w
def Tt4_2 : List SRule := [.bin .add (iv 1) (sv 5) (sv 6), .bin .leq (iv 10) (sv 6) (.bool true), .bin .leq (iv 20) (sv 6) (.bool true), .bin .leq (iv 30) (sv 6) (.bool false)]
def Lt4_2 : List Seg := [q0, q3, q6, q7, q8]
theorem Ct4_2 : chk kR 2 (fun m => Tt4_2.all (ruleP m) && (u0.all (ruleP m) && (u3.all (ruleP m) && (u6.all (ruleP m) && (u7.all (ruleP m) && (u8.all (ruleP m) && true)))))) = true := by kernel_rfl
theorem Rt4_2 (q c : Int) (ok : ∀ r ∈ Tt4_2, r.good (qv q c)) : isTrue (@callFF (SVq q c) (@SymT.mk (SVq q c) Tt4_2 ok) Tryz.prog ⟨506, 508, 376⟩ (primOr (prim1 10 primTrue) (primOr (modPrim 3) (segPrim [15, 19, 26, 25] Lt4_2))) 100000 200 4 [sv 0, sv 1, .bool true] m1) = true := by kernel_rfl
theorem Wt4_2 (q c : Int) (hc : Int.emod c 8 = 3) (hk : kR (mN q) = 2) (w : World) :
    Calls Tryz.prog 4 ⟨[.int .i64 q, .int .i64 c, .bool true]⟩ w fun e w' => e = .returned (.bool true) ∧ Below w.heap.size w w' := by
  have hh := chk_at Ct4_2 hk
  simp only [Bool.and_eq_true] at hh
  obtain ⟨h0, h1, h2, h3, h4, h5, _⟩ := hh
  letI SV : SymV := SVq q c
  letI ST : SymT := ⟨Tt4_2, all_good h0⟩
  exact true_call pok (primOr_ok (prim1_ok awake) (primOr_ok (modPrim_ok q c 3 (modC3 q c hc)) (segPrim_ok (l := Lt4_2) (List.forall_mem_cons.2 ⟨q0good q c h1, (List.forall_mem_cons.2 ⟨q3good q c h2, (List.forall_mem_cons.2 ⟨q6good q c h3, (List.forall_mem_cons.2 ⟨q7good q c h4, (List.forall_mem_cons.2 ⟨q8good q c h5, (fun _ h => by cases h)⟩)⟩)⟩)⟩)⟩)))) (Rt4_2 q c (all_good h0))
    (.cons _ _ _ _ (.sym _ _ _ _ rfl) (.cons _ _ _ _ (.sym _ _ _ _ rfl) (.cons _ _ _ _ (.bool _) .nil))) w
def Tt4_3 : List SRule := [.bin .add (iv 1) (sv 5) (sv 6), .bin .leq (iv 10) (sv 6) (.bool true), .bin .leq (iv 20) (sv 6) (.bool true), .bin .leq (iv 30) (sv 6) (.bool true), .bin .leq (iv 40) (sv 6) (.bool false)]
def Lt4_3 : List Seg := [q0, q3, q6, q9, q10, q11]
theorem Ct4_3 : chk kR 3 (fun m => Tt4_3.all (ruleP m) && (u0.all (ruleP m) && (u3.all (ruleP m) && (u6.all (ruleP m) && (u9.all (ruleP m) && (u10.all (ruleP m) && (u11.all (ruleP m) && true))))))) = true := by kernel_rfl
theorem Rt4_3 (q c : Int) (ok : ∀ r ∈ Tt4_3, r.good (qv q c)) : isTrue (@callFF (SVq q c) (@SymT.mk (SVq q c) Tt4_3 ok) Tryz.prog ⟨506, 508, 376⟩ (primOr (prim1 10 primTrue) (primOr (modPrim 3) (segPrim [15, 19, 26, 25] Lt4_3))) 100000 200 4 [sv 0, sv 1, .bool true] m1) = true := by kernel_rfl
theorem Wt4_3 (q c : Int) (hc : Int.emod c 8 = 3) (hk : kR (mN q) = 3) (w : World) :
    Calls Tryz.prog 4 ⟨[.int .i64 q, .int .i64 c, .bool true]⟩ w fun e w' => e = .returned (.bool true) ∧ Below w.heap.size w w' := by
  have hh := chk_at Ct4_3 hk
  simp only [Bool.and_eq_true] at hh
  obtain ⟨h0, h1, h2, h3, h4, h5, h6, _⟩ := hh
  letI SV : SymV := SVq q c
  letI ST : SymT := ⟨Tt4_3, all_good h0⟩
  exact true_call pok (primOr_ok (prim1_ok awake) (primOr_ok (modPrim_ok q c 3 (modC3 q c hc)) (segPrim_ok (l := Lt4_3) (List.forall_mem_cons.2 ⟨q0good q c h1, (List.forall_mem_cons.2 ⟨q3good q c h2, (List.forall_mem_cons.2 ⟨q6good q c h3, (List.forall_mem_cons.2 ⟨q9good q c h4, (List.forall_mem_cons.2 ⟨q10good q c h5, (List.forall_mem_cons.2 ⟨q11good q c h6, (fun _ h => by cases h)⟩)⟩)⟩)⟩)⟩)⟩)))) (Rt4_3 q c (all_good h0))
    (.cons _ _ _ _ (.sym _ _ _ _ rfl) (.cons _ _ _ _ (.sym _ _ _ _ rfl) (.cons _ _ _ _ (.bool _) .nil))) w
def Tt4_4 : List SRule := [.bin .add (iv 1) (sv 5) (sv 6), .bin .leq (iv 10) (sv 6) (.bool true), .bin .leq (iv 20) (sv 6) (.bool true), .bin .leq (iv 30) (sv 6) (.bool true), .bin .leq (iv 40) (sv 6) (.bool true)]
def Lt4_4 : List Seg := [q0, q3, q6, q9, q12]
theorem Ct4_4 : chk kR 4 (fun m => Tt4_4.all (ruleP m) && (u0.all (ruleP m) && (u3.all (ruleP m) && (u6.all (ruleP m) && (u9.all (ruleP m) && (u12.all (ruleP m) && true)))))) = true := by kernel_rfl
theorem Rt4_4 (q c : Int) (ok : ∀ r ∈ Tt4_4, r.good (qv q c)) : isTrue (@callFF (SVq q c) (@SymT.mk (SVq q c) Tt4_4 ok) Tryz.prog ⟨506, 508, 376⟩ (primOr (prim1 10 primTrue) (primOr (modPrim 3) (segPrim [15, 19, 26, 25] Lt4_4))) 100000 200 4 [sv 0, sv 1, .bool true] m1) = true := by kernel_rfl
theorem Wt4_4 (q c : Int) (hc : Int.emod c 8 = 3) (hk : kR (mN q) = 4) (w : World) :
    Calls Tryz.prog 4 ⟨[.int .i64 q, .int .i64 c, .bool true]⟩ w fun e w' => e = .returned (.bool true) ∧ Below w.heap.size w w' := by
  have hh := chk_at Ct4_4 hk
  simp only [Bool.and_eq_true] at hh
  obtain ⟨h0, h1, h2, h3, h4, h5, _⟩ := hh
  letI SV : SymV := SVq q c
  letI ST : SymT := ⟨Tt4_4, all_good h0⟩
  exact true_call pok (primOr_ok (prim1_ok awake) (primOr_ok (modPrim_ok q c 3 (modC3 q c hc)) (segPrim_ok (l := Lt4_4) (List.forall_mem_cons.2 ⟨q0good q c h1, (List.forall_mem_cons.2 ⟨q3good q c h2, (List.forall_mem_cons.2 ⟨q6good q c h3, (List.forall_mem_cons.2 ⟨q9good q c h4, (List.forall_mem_cons.2 ⟨q12good q c h5, (fun _ h => by cases h)⟩)⟩)⟩)⟩)⟩)))) (Rt4_4 q c (all_good h0))
    (.cons _ _ _ _ (.sym _ _ _ _ rfl) (.cons _ _ _ _ (.sym _ _ _ _ rfl) (.cons _ _ _ _ (.bool _) .nil))) w
def Tt4_5 : List SRule := [.bin .add (iv 1) (sv 5) (sv 6), .bin .leq (iv 10) (sv 6) (.bool true), .bin .leq (iv 20) (sv 6) (.bool true), .bin .leq (iv 30) (sv 6) (.bool true), .bin .leq (iv 40) (sv 6) (.bool true)]
def Lt4_5 : List Seg := [q0, q3, q6, q9, q12]
theorem Ct4_5 : chk kR 5 (fun m => Tt4_5.all (ruleP m) && (u0.all (ruleP m) && (u3.all (ruleP m) && (u6.all (ruleP m) && (u9.all (ruleP m) && (u12.all (ruleP m) && true)))))) = true := by kernel_rfl
theorem Rt4_5 (q c : Int) (ok : ∀ r ∈ Tt4_5, r.good (qv q c)) : isTrue (@callFF (SVq q c) (@SymT.mk (SVq q c) Tt4_5 ok) Tryz.prog ⟨506, 508, 376⟩ (primOr (prim1 10 primTrue) (primOr (modPrim 3) (segPrim [15, 19, 26, 25] Lt4_5))) 100000 200 4 [sv 0, sv 1, .bool true] m1) = true := by kernel_rfl
theorem Wt4_5 (q c : Int) (hc : Int.emod c 8 = 3) (hk : kR (mN q) = 5) (w : World) :
    Calls Tryz.prog 4 ⟨[.int .i64 q, .int .i64 c, .bool true]⟩ w fun e w' => e = .returned (.bool true) ∧ Below w.heap.size w w' := by
  have hh := chk_at Ct4_5 hk
  simp only [Bool.and_eq_true] at hh
  obtain ⟨h0, h1, h2, h3, h4, h5, _⟩ := hh
  letI SV : SymV := SVq q c
  letI ST : SymT := ⟨Tt4_5, all_good h0⟩
  exact true_call pok (primOr_ok (prim1_ok awake) (primOr_ok (modPrim_ok q c 3 (modC3 q c hc)) (segPrim_ok (l := Lt4_5) (List.forall_mem_cons.2 ⟨q0good q c h1, (List.forall_mem_cons.2 ⟨q3good q c h2, (List.forall_mem_cons.2 ⟨q6good q c h3, (List.forall_mem_cons.2 ⟨q9good q c h4, (List.forall_mem_cons.2 ⟨q12good q c h5, (fun _ h => by cases h)⟩)⟩)⟩)⟩)⟩)))) (Rt4_5 q c (all_good h0))
    (.cons _ _ _ _ (.sym _ _ _ _ rfl) (.cons _ _ _ _ (.sym _ _ _ _ rfl) (.cons _ _ _ _ (.bool _) .nil))) w
def Tt4_6 : List SRule := [.bin .add (iv 1) (sv 5) (sv 6), .bin .leq (iv 10) (sv 6) (.bool true), .bin .leq (iv 20) (sv 6) (.bool true), .bin .leq (iv 30) (sv 6) (.bool true), .bin .leq (iv 40) (sv 6) (.bool true)]
def Lt4_6 : List Seg := [q0, q3, q6, q9, q12]
theorem Ct4_6 : chk kR 6 (fun m => Tt4_6.all (ruleP m) && (u0.all (ruleP m) && (u3.all (ruleP m) && (u6.all (ruleP m) && (u9.all (ruleP m) && (u12.all (ruleP m) && true)))))) = true := by kernel_rfl
theorem Rt4_6 (q c : Int) (ok : ∀ r ∈ Tt4_6, r.good (qv q c)) : isTrue (@callFF (SVq q c) (@SymT.mk (SVq q c) Tt4_6 ok) Tryz.prog ⟨506, 508, 376⟩ (primOr (prim1 10 primTrue) (primOr (modPrim 3) (segPrim [15, 19, 26, 25] Lt4_6))) 100000 200 4 [sv 0, sv 1, .bool true] m1) = true := by kernel_rfl
theorem Wt4_6 (q c : Int) (hc : Int.emod c 8 = 3) (hk : kR (mN q) = 6) (w : World) :
    Calls Tryz.prog 4 ⟨[.int .i64 q, .int .i64 c, .bool true]⟩ w fun e w' => e = .returned (.bool true) ∧ Below w.heap.size w w' := by
  have hh := chk_at Ct4_6 hk
  simp only [Bool.and_eq_true] at hh
  obtain ⟨h0, h1, h2, h3, h4, h5, _⟩ := hh
  letI SV : SymV := SVq q c
  letI ST : SymT := ⟨Tt4_6, all_good h0⟩
  exact true_call pok (primOr_ok (prim1_ok awake) (primOr_ok (modPrim_ok q c 3 (modC3 q c hc)) (segPrim_ok (l := Lt4_6) (List.forall_mem_cons.2 ⟨q0good q c h1, (List.forall_mem_cons.2 ⟨q3good q c h2, (List.forall_mem_cons.2 ⟨q6good q c h3, (List.forall_mem_cons.2 ⟨q9good q c h4, (List.forall_mem_cons.2 ⟨q12good q c h5, (fun _ h => by cases h)⟩)⟩)⟩)⟩)⟩)))) (Rt4_6 q c (all_good h0))
    (.cons _ _ _ _ (.sym _ _ _ _ rfl) (.cons _ _ _ _ (.sym _ _ _ _ rfl) (.cons _ _ _ _ (.bool _) .nil))) w
end QueueRow
end Go.Proofs.YtopofdjgfbimnaaGreat
