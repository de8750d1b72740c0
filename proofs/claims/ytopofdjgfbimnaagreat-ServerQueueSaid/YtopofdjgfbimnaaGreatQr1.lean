/- The law, run: at every number of calls, at every queue of a kind. -/
import Derived.Test.YtopofdjgfbimnaaGreatQs0
import Derived.Test.YtopofdjgfbimnaaGreatQs1
namespace Go.Proofs.YtopofdjgfbimnaaGreat
open Go Go.Eng
namespace QueueRow
open Go.RowKit
def Tt4_7 : List SRule := [.bin .add (iv 1) (sv 5) (sv 6), .bin .leq (iv 10) (sv 6) (.bool true), .bin .leq (iv 20) (sv 6) (.bool true), .bin .leq (iv 30) (sv 6) (.bool true), .bin .leq (iv 40) (sv 6) (.bool true)]
def Lt4_7 : List Seg := [q0, q3, q6, q9, q12]
theorem Ct4_7 : chk kR 7 (fun m => Tt4_7.all (ruleP m) && (u0.all (ruleP m) && (u3.all (ruleP m) && (u6.all (ruleP m) && (u9.all (ruleP m) && (u12.all (ruleP m) && true)))))) = true := by kernel_rfl
theorem Rt4_7 (q c : Int) (ok : ∀ r ∈ Tt4_7, r.good (qv q c)) : isTrue (@callFF (SVq q c) (@SymT.mk (SVq q c) Tt4_7 ok) Tryz.prog ⟨506, 508, 376⟩ (primOr (prim1 10 primTrue) (primOr (modPrim 3) (segPrim [15, 19, 26, 25] Lt4_7))) 100000 200 4 [sv 0, sv 1, .bool true] m1) = true := by kernel_rfl
theorem Wt4_7 (q c : Int) (hc : Int.emod c 8 = 3) (hk : kR (mN q) = 7) (w : World) :
    Calls Tryz.prog 4 ⟨[.int .i64 q, .int .i64 c, .bool true]⟩ w fun e w' => e = .returned (.bool true) ∧ Below w.heap.size w w' := by
  have hh := chk_at Ct4_7 hk
  simp only [Bool.and_eq_true] at hh
  obtain ⟨h0, h1, h2, h3, h4, h5, _⟩ := hh
  letI SV : SymV := SVq q c
  letI ST : SymT := ⟨Tt4_7, all_good h0⟩
  exact true_call pok (primOr_ok (prim1_ok awake) (primOr_ok (modPrim_ok q c 3 (modC3 q c hc)) (segPrim_ok (l := Lt4_7) (List.forall_mem_cons.2 ⟨q0good q c h1, (List.forall_mem_cons.2 ⟨q3good q c h2, (List.forall_mem_cons.2 ⟨q6good q c h3, (List.forall_mem_cons.2 ⟨q9good q c h4, (List.forall_mem_cons.2 ⟨q12good q c h5, (fun _ h => by cases h)⟩)⟩)⟩)⟩)⟩)))) (Rt4_7 q c (all_good h0))
    (.cons _ _ _ _ (.sym _ _ _ _ rfl) (.cons _ _ _ _ (.sym _ _ _ _ rfl) (.cons _ _ _ _ (.bool _) .nil))) w
def Tt4_8 : List SRule := [.bin .add (iv 1) (sv 5) (sv 6), .bin .leq (iv 10) (sv 6) (.bool true), .bin .leq (iv 20) (sv 6) (.bool true), .bin .leq (iv 30) (sv 6) (.bool true), .bin .leq (iv 40) (sv 6) (.bool true)]
def Lt4_8 : List Seg := [q0, q3, q6, q9, q12]
theorem Ct4_8 : chk kR 8 (fun m => Tt4_8.all (ruleP m) && (u0.all (ruleP m) && (u3.all (ruleP m) && (u6.all (ruleP m) && (u9.all (ruleP m) && (u12.all (ruleP m) && true)))))) = true := by kernel_rfl
theorem Rt4_8 (q c : Int) (ok : ∀ r ∈ Tt4_8, r.good (qv q c)) : isTrue (@callFF (SVq q c) (@SymT.mk (SVq q c) Tt4_8 ok) Tryz.prog ⟨506, 508, 376⟩ (primOr (prim1 10 primTrue) (primOr (modPrim 3) (segPrim [15, 19, 26, 25] Lt4_8))) 100000 200 4 [sv 0, sv 1, .bool true] m1) = true := by kernel_rfl
theorem Wt4_8 (q c : Int) (hc : Int.emod c 8 = 3) (hk : kR (mN q) = 8) (w : World) :
    Calls Tryz.prog 4 ⟨[.int .i64 q, .int .i64 c, .bool true]⟩ w fun e w' => e = .returned (.bool true) ∧ Below w.heap.size w w' := by
  have hh := chk_at Ct4_8 hk
  simp only [Bool.and_eq_true] at hh
  obtain ⟨h0, h1, h2, h3, h4, h5, _⟩ := hh
  letI SV : SymV := SVq q c
  letI ST : SymT := ⟨Tt4_8, all_good h0⟩
  exact true_call pok (primOr_ok (prim1_ok awake) (primOr_ok (modPrim_ok q c 3 (modC3 q c hc)) (segPrim_ok (l := Lt4_8) (List.forall_mem_cons.2 ⟨q0good q c h1, (List.forall_mem_cons.2 ⟨q3good q c h2, (List.forall_mem_cons.2 ⟨q6good q c h3, (List.forall_mem_cons.2 ⟨q9good q c h4, (List.forall_mem_cons.2 ⟨q12good q c h5, (fun _ h => by cases h)⟩)⟩)⟩)⟩)⟩)))) (Rt4_8 q c (all_good h0))
    (.cons _ _ _ _ (.sym _ _ _ _ rfl) (.cons _ _ _ _ (.sym _ _ _ _ rfl) (.cons _ _ _ _ (.bool _) .nil))) w
def Tt5_0 : List SRule := [.bin .add (iv 1) (sv 5) (sv 6), .bin .leq (iv 10) (sv 6) (.bool false)]
def Lt5_0 : List Seg := [q0, q1, q2]
theorem Ct5_0 : chk kR 0 (fun m => Tt5_0.all (ruleP m) && (u0.all (ruleP m) && (u1.all (ruleP m) && (u2.all (ruleP m) && true)))) = true := by kernel_rfl
theorem Rt5_0 (q c : Int) (ok : ∀ r ∈ Tt5_0, r.good (qv q c)) : isTrue (@callFF (SVq q c) (@SymT.mk (SVq q c) Tt5_0 ok) Tryz.prog ⟨506, 508, 376⟩ (primOr (prim1 10 primTrue) (primOr (modPrim 4) (segPrim [15, 19, 26, 25] Lt5_0))) 100000 200 4 [sv 0, sv 1, .bool true] m1) = true := by kernel_rfl
theorem Wt5_0 (q c : Int) (hc : Int.emod c 8 = 4) (hk : kR (mN q) = 0) (w : World) :
    Calls Tryz.prog 4 ⟨[.int .i64 q, .int .i64 c, .bool true]⟩ w fun e w' => e = .returned (.bool true) ∧ Below w.heap.size w w' := by
  have hh := chk_at Ct5_0 hk
  simp only [Bool.and_eq_true] at hh
  obtain ⟨h0, h1, h2, h3, _⟩ := hh
  letI SV : SymV := SVq q c
  letI ST : SymT := ⟨Tt5_0, all_good h0⟩
  exact true_call pok (primOr_ok (prim1_ok awake) (primOr_ok (modPrim_ok q c 4 (modC4 q c hc)) (segPrim_ok (l := Lt5_0) (List.forall_mem_cons.2 ⟨q0good q c h1, (List.forall_mem_cons.2 ⟨q1good q c h2, (List.forall_mem_cons.2 ⟨q2good q c h3, (fun _ h => by cases h)⟩)⟩)⟩)))) (Rt5_0 q c (all_good h0))
    (.cons _ _ _ _ (.sym _ _ _ _ rfl) (.cons _ _ _ _ (.sym _ _ _ _ rfl) (.cons _ _ _ _ (.bool _) .nil))) w
def Tt5_1 : List SRule := [.bin .add (iv 1) (sv 5) (sv 6), .bin .leq (iv 10) (sv 6) (.bool true), .bin .leq (iv 20) (sv 6) (.bool false)]
def Lt5_1 : List Seg := [q0, q3, q4, q5]
theorem Ct5_1 : chk kR 1 (fun m => Tt5_1.all (ruleP m) && (u0.all (ruleP m) && (u3.all (ruleP m) && (u4.all (ruleP m) && (u5.all (ruleP m) && true))))) = true := by kernel_rfl
theorem Rt5_1 (q c : Int) (ok : ∀ r ∈ Tt5_1, r.good (qv q c)) : isTrue (@callFF (SVq q c) (@SymT.mk (SVq q c) Tt5_1 ok) Tryz.prog ⟨506, 508, 376⟩ (primOr (prim1 10 primTrue) (primOr (modPrim 4) (segPrim [15, 19, 26, 25] Lt5_1))) 100000 200 4 [sv 0, sv 1, .bool true] m1) = true := by kernel_rfl
theorem Wt5_1 (q c : Int) (hc : Int.emod c 8 = 4) (hk : kR (mN q) = 1) (w : World) :
    Calls Tryz.prog 4 ⟨[.int .i64 q, .int .i64 c, .bool true]⟩ w fun e w' => e = .returned (.bool true) ∧ Below w.heap.size w w' := by
  have hh := chk_at Ct5_1 hk
  simp only [Bool.and_eq_true] at hh
  obtain ⟨h0, h1, h2, h3, h4, _⟩ := hh
  letI SV : SymV := SVq q c
  letI ST : SymT := ⟨Tt5_1, all_good h0⟩
  exact true_call pok (primOr_ok (prim1_ok awake) (primOr_ok (modPrim_ok q c 4 (modC4 q c hc)) (segPrim_ok (l := Lt5_1) (List.forall_mem_cons.2 ⟨q0good q c h1, (List.forall_mem_cons.2 ⟨q3good q c h2, (List.forall_mem_cons.2 ⟨q4good q c h3, (List.forall_mem_cons.2 ⟨q5good q c h4, (fun _ h => by cases h)⟩)⟩)⟩)⟩)))) (Rt5_1 q c (all_good h0))
    (.cons _ _ _ _ (.sym _ _ _ _ rfl) (.cons _ _ _ _ (.sym _ _ _ _ rfl) (.cons _ _ _ _ (.bool _) .nil))) w
def Tt5_2 : List SRule := [.bin .add (iv 1) (sv 5) (sv 6), .bin .leq (iv 10) (sv 6) (.bool true), .bin .leq (iv 20) (sv 6) (.bool true), .bin .leq (iv 30) (sv 6) (.bool false)]
def Lt5_2 : List Seg := [q0, q3, q6, q7, q8]
theorem Ct5_2 : chk kR 2 (fun m => Tt5_2.all (ruleP m) && (u0.all (ruleP m) && (u3.all (ruleP m) && (u6.all (ruleP m) && (u7.all (ruleP m) && (u8.all (ruleP m) && true)))))) = true := by kernel_rfl
theorem Rt5_2 (q c : Int) (ok : ∀ r ∈ Tt5_2, r.good (qv q c)) : isTrue (@callFF (SVq q c) (@SymT.mk (SVq q c) Tt5_2 ok) Tryz.prog ⟨506, 508, 376⟩ (primOr (prim1 10 primTrue) (primOr (modPrim 4) (segPrim [15, 19, 26, 25] Lt5_2))) 100000 200 4 [sv 0, sv 1, .bool true] m1) = true := by kernel_rfl
theorem Wt5_2 (q c : Int) (hc : Int.emod c 8 = 4) (hk : kR (mN q) = 2) (w : World) :
    Calls Tryz.prog 4 ⟨[.int .i64 q, .int .i64 c, .bool true]⟩ w fun e w' => e = .returned (.bool true) ∧ Below w.heap.size w w' := by
  have hh := chk_at Ct5_2 hk
  simp only [Bool.and_eq_true] at hh
  obtain ⟨h0, h1, h2, h3, h4, h5, _⟩ := hh
  letI SV : SymV := SVq q c
  letI ST : SymT := ⟨Tt5_2, all_good h0⟩
  exact true_call pok (primOr_ok (prim1_ok awake) (primOr_ok (modPrim_ok q c 4 (modC4 q c hc)) (segPrim_ok (l := Lt5_2) (List.forall_mem_cons.2 ⟨q0good q c h1, (List.forall_mem_cons.2 ⟨q3good q c h2, (List.forall_mem_cons.2 ⟨q6good q c h3, (List.forall_mem_cons.2 ⟨q7good q c h4, (List.forall_mem_cons.2 ⟨q8good q c h5, (fun _ h => by cases h)⟩)⟩)⟩)⟩)⟩)))) (Rt5_2 q c (all_good h0))
    (.cons _ _ _ _ (.sym _ _ _ _ rfl) (.cons _ _ _ _ (.sym _ _ _ _ rfl) (.cons _ _ _ _ (.bool _) .nil))) w
def Tt5_3 : List SRule := [.bin .add (iv 1) (sv 5) (sv 6), .bin .leq (iv 10) (sv 6) (.bool true), .bin .leq (iv 20) (sv 6) (.bool true), .bin .leq (iv 30) (sv 6) (.bool true), .bin .leq (iv 40) (sv 6) (.bool false)]
def Lt5_3 : List Seg := [q0, q3, q6, q9, q10, q11]
theorem Ct5_3 : chk kR 3 (fun m => Tt5_3.all (ruleP m) && (u0.all (ruleP m) && (u3.all (ruleP m) && (u6.all (ruleP m) && (u9.all (ruleP m) && (u10.all (ruleP m) && (u11.all (ruleP m) && true))))))) = true := by kernel_rfl
theorem Rt5_3 (q c : Int) (ok : ∀ r ∈ Tt5_3, r.good (qv q c)) : isTrue (@callFF (SVq q c) (@SymT.mk (SVq q c) Tt5_3 ok) Tryz.prog ⟨506, 508, 376⟩ (primOr (prim1 10 primTrue) (primOr (modPrim 4) (segPrim [15, 19, 26, 25] Lt5_3))) 100000 200 4 [sv 0, sv 1, .bool true] m1) = true := by kernel_rfl
theorem Wt5_3 (q c : Int) (hc : Int.emod c 8 = 4) (hk : kR (mN q) = 3) (w : World) :
    Calls Tryz.prog 4 ⟨[.int .i64 q, .int .i64 c, .bool true]⟩ w fun e w' => e = .returned (.bool true) ∧ Below w.heap.size w w' := by
  have hh := chk_at Ct5_3 hk
  simp only [Bool.and_eq_true] at hh
  obtain ⟨h0, h1, h2, h3, h4, h5, h6, _⟩ := hh
  letI SV : SymV := SVq q c
  letI ST : SymT := ⟨Tt5_3, all_good h0⟩
  exact true_call pok (primOr_ok (prim1_ok awake) (primOr_ok (modPrim_ok q c 4 (modC4 q c hc)) (segPrim_ok (l := Lt5_3) (List.forall_mem_cons.2 ⟨q0good q c h1, (List.forall_mem_cons.2 ⟨q3good q c h2, (List.forall_mem_cons.2 ⟨q6good q c h3, (List.forall_mem_cons.2 ⟨q9good q c h4, (List.forall_mem_cons.2 ⟨q10good q c h5, (List.forall_mem_cons.2 ⟨q11good q c h6, (fun _ h => by cases h)⟩)⟩)⟩)⟩)⟩)⟩)))) (Rt5_3 q c (all_good h0))
    (.cons _ _ _ _ (.sym _ _ _ _ rfl) (.cons _ _ _ _ (.sym _ _ _ _ rfl) (.cons _ _ _ _ (.bool _) .nil))) w
def Tt5_4 : List SRule := [.bin .add (iv 1) (sv 5) (sv 6), .bin .leq (iv 10) (sv 6) (.bool true), .bin .leq (iv 20) (sv 6) (.bool true), .bin .leq (iv 30) (sv 6) (.bool true), .bin .leq (iv 40) (sv 6) (.bool true), .bin .leq (iv 50) (sv 6) (.bool false)]
def Lt5_4 : List Seg := [q0, q3, q6, q9, q12, q13, q14]
theorem Ct5_4 : chk kR 4 (fun m => Tt5_4.all (ruleP m) && (u0.all (ruleP m) && (u3.all (ruleP m) && (u6.all (ruleP m) && (u9.all (ruleP m) && (u12.all (ruleP m) && (u13.all (ruleP m) && (u14.all (ruleP m) && true)))))))) = true := by kernel_rfl
theorem Rt5_4 (q c : Int) (ok : ∀ r ∈ Tt5_4, r.good (qv q c)) : isTrue (@callFF (SVq q c) (@SymT.mk (SVq q c) Tt5_4 ok) Tryz.prog ⟨506, 508, 376⟩ (primOr (prim1 10 primTrue) (primOr (modPrim 4) (segPrim [15, 19, 26, 25] Lt5_4))) 100000 200 4 [sv 0, sv 1, .bool true] m1) = true := by kernel_rfl
theorem Wt5_4 (q c : Int) (hc : Int.emod c 8 = 4) (hk : kR (mN q) = 4) (w : World) :
    Calls Tryz.prog 4 ⟨[.int .i64 q, .int .i64 c, .bool true]⟩ w fun e w' => e = .returned (.bool true) ∧ Below w.heap.size w w' := by
  have hh := chk_at Ct5_4 hk
  simp only [Bool.and_eq_true] at hh
  obtain ⟨h0, h1, h2, h3, h4, h5, h6, h7, _⟩ := hh
  letI SV : SymV := SVq q c
  letI ST : SymT := ⟨Tt5_4, all_good h0⟩
  exact true_call pok (primOr_ok (prim1_ok awake) (primOr_ok (modPrim_ok q c 4 (modC4 q c hc)) (segPrim_ok (l := Lt5_4) (List.forall_mem_cons.2 ⟨q0good q c h1, (List.forall_mem_cons.2 ⟨q3good q c h2, (List.forall_mem_cons.2 ⟨q6good q c h3, (List.forall_mem_cons.2 ⟨q9good q c h4, (List.forall_mem_cons.2 ⟨q12good q c h5, (List.forall_mem_cons.2 ⟨q13good q c h6, (List.forall_mem_cons.2 ⟨q14good q c h7, (fun _ h => by cases h)⟩)⟩)⟩)⟩)⟩)⟩)⟩)))) (Rt5_4 q c (all_good h0))
    (.cons _ _ _ _ (.sym _ _ _ _ rfl) (.cons _ _ _ _ (.sym _ _ _ _ rfl) (.cons _ _ _ _ (.bool _) .nil))) w
def Tt5_5 : List SRule := [.bin .add (iv 1) (sv 5) (sv 6), .bin .leq (iv 10) (sv 6) (.bool true), .bin .leq (iv 20) (sv 6) (.bool true), .bin .leq (iv 30) (sv 6) (.bool true), .bin .leq (iv 40) (sv 6) (.bool true), .bin .leq (iv 50) (sv 6) (.bool true)]
def Lt5_5 : List Seg := [q0, q3, q6, q9, q12, q15]
theorem Ct5_5 : chk kR 5 (fun m => Tt5_5.all (ruleP m) && (u0.all (ruleP m) && (u3.all (ruleP m) && (u6.all (ruleP m) && (u9.all (ruleP m) && (u12.all (ruleP m) && (u15.all (ruleP m) && true))))))) = true := by kernel_rfl
theorem Rt5_5 (q c : Int) (ok : ∀ r ∈ Tt5_5, r.good (qv q c)) : isTrue (@callFF (SVq q c) (@SymT.mk (SVq q c) Tt5_5 ok) Tryz.prog ⟨506, 508, 376⟩ (primOr (prim1 10 primTrue) (primOr (modPrim 4) (segPrim [15, 19, 26, 25] Lt5_5))) 100000 200 4 [sv 0, sv 1, .bool true] m1) = true := by kernel_rfl
theorem Wt5_5 (q c : Int) (hc : Int.emod c 8 = 4) (hk : kR (mN q) = 5) (w : World) :
    Calls Tryz.prog 4 ⟨[.int .i64 q, .int .i64 c, .bool true]⟩ w fun e w' => e = .returned (.bool true) ∧ Below w.heap.size w w' := by
  have hh := chk_at Ct5_5 hk
  simp only [Bool.and_eq_true] at hh
  obtain ⟨h0, h1, h2, h3, h4, h5, h6, _⟩ := hh
  letI SV : SymV := SVq q c
  letI ST : SymT := ⟨Tt5_5, all_good h0⟩
  exact true_call pok (primOr_ok (prim1_ok awake) (primOr_ok (modPrim_ok q c 4 (modC4 q c hc)) (segPrim_ok (l := Lt5_5) (List.forall_mem_cons.2 ⟨q0good q c h1, (List.forall_mem_cons.2 ⟨q3good q c h2, (List.forall_mem_cons.2 ⟨q6good q c h3, (List.forall_mem_cons.2 ⟨q9good q c h4, (List.forall_mem_cons.2 ⟨q12good q c h5, (List.forall_mem_cons.2 ⟨q15good q c h6, (fun _ h => by cases h)⟩)⟩)⟩)⟩)⟩)⟩)))) (Rt5_5 q c (all_good h0))
    (.cons _ _ _ _ (.sym _ _ _ _ rfl) (.cons _ _ _ _ (.sym _ _ _ _ rfl) (.cons _ _ _ _ (.bool _) .nil))) w
def Tt5_6 : List SRule := [.bin .add (iv 1) (sv 5) (sv 6), .bin .leq (iv 10) (sv 6) (.bool true), .bin .leq (iv 20) (sv 6) (.bool true), .bin .leq (iv 30) (sv 6) (.bool true), .bin .leq (iv 40) (sv 6) (.bool true), .bin .leq (iv 50) (sv 6) (.bool true)]
def Lt5_6 : List Seg := [q0, q3, q6, q9, q12, q15]
theorem Ct5_6 : chk kR 6 (fun m => Tt5_6.all (ruleP m) && (u0.all (ruleP m) && (u3.all (ruleP m) && (u6.all (ruleP m) && (u9.all (ruleP m) && (u12.all (ruleP m) && (u15.all (ruleP m) && true))))))) = true := by kernel_rfl
theorem Rt5_6 (q c : Int) (ok : ∀ r ∈ Tt5_6, r.good (qv q c)) : isTrue (@callFF (SVq q c) (@SymT.mk (SVq q c) Tt5_6 ok) Tryz.prog ⟨506, 508, 376⟩ (primOr (prim1 10 primTrue) (primOr (modPrim 4) (segPrim [15, 19, 26, 25] Lt5_6))) 100000 200 4 [sv 0, sv 1, .bool true] m1) = true := by kernel_rfl
theorem Wt5_6 (q c : Int) (hc : Int.emod c 8 = 4) (hk : kR (mN q) = 6) (w : World) :
    Calls Tryz.prog 4 ⟨[.int .i64 q, .int .i64 c, .bool true]⟩ w fun e w' => e = .returned (.bool true) ∧ Below w.heap.size w w' := by
  have hh := chk_at Ct5_6 hk
  simp only [Bool.and_eq_true] at hh
  obtain ⟨h0, h1, h2, h3, h4, h5, h6, _⟩ := hh
  letI SV : SymV := SVq q c
  letI ST : SymT := ⟨Tt5_6, all_good h0⟩
  exact true_call pok (primOr_ok (prim1_ok awake) (primOr_ok (modPrim_ok q c 4 (modC4 q c hc)) (segPrim_ok (l := Lt5_6) (List.forall_mem_cons.2 ⟨q0good q c h1, (List.forall_mem_cons.2 ⟨q3good q c h2, (List.forall_mem_cons.2 ⟨q6good q c h3, (List.forall_mem_cons.2 ⟨q9good q c h4, (List.forall_mem_cons.2 ⟨q12good q c h5, (List.forall_mem_cons.2 ⟨q15good q c h6, (fun _ h => by cases h)⟩)⟩)⟩)⟩)⟩)⟩)))) (Rt5_6 q c (all_good h0))
    (.cons _ _ _ _ (.sym _ _ _ _ rfl) (.cons _ _ _ _ (.sym _ _ _ _ rfl) (.cons _ _ _ _ (.bool _) .nil))) w
def Tt5_7 : List SRule := [.bin .add (iv 1) (sv 5) (sv 6), .bin .leq (iv 10) (sv 6) (.bool true), .bin .leq (iv 20) (sv 6) (.bool true), .bin .leq (iv 30) (sv 6) (.bool true), .bin .leq (iv 40) (sv 6) (.bool true), .bin .leq (iv 50) (sv 6) (.bool true)]
def Lt5_7 : List Seg := [q0, q3, q6, q9, q12, q15]
theorem Ct5_7 : chk kR 7 (fun m => Tt5_7.all (ruleP m) && (u0.all (ruleP m) && (u3.all (ruleP m) && (u6.all (ruleP m) && (u9.all (ruleP m) && (u12.all (ruleP m) && (u15.all (ruleP m) && true))))))) = true := by kernel_rfl
theorem Rt5_7 (q c : Int) (ok : ∀ r ∈ Tt5_7, r.good (qv q c)) : isTrue (@callFF (SVq q c) (@SymT.mk (SVq q c) Tt5_7 ok) Tryz.prog ⟨506, 508, 376⟩ (primOr (prim1 10 primTrue) (primOr (modPrim 4) (segPrim [15, 19, 26, 25] Lt5_7))) 100000 200 4 [sv 0, sv 1, .bool true] m1) = true := by kernel_rfl
theorem Wt5_7 (q c : Int) (hc : Int.emod c 8 = 4) (hk : kR (mN q) = 7) (w : World) :
    Calls Tryz.prog 4 ⟨[.int .i64 q, .int .i64 c, .bool true]⟩ w fun e w' => e = .returned (.bool true) ∧ Below w.heap.size w w' := by
  have hh := chk_at Ct5_7 hk
  simp only [Bool.and_eq_true] at hh
  obtain ⟨h0, h1, h2, h3, h4, h5, h6, _⟩ := hh
  letI SV : SymV := SVq q c
  letI ST : SymT := ⟨Tt5_7, all_good h0⟩
  exact true_call pok (primOr_ok (prim1_ok awake) (primOr_ok (modPrim_ok q c 4 (modC4 q c hc)) (segPrim_ok (l := Lt5_7) (List.forall_mem_cons.2 ⟨q0good q c h1, (List.forall_mem_cons.2 ⟨q3good q c h2, (List.forall_mem_cons.2 ⟨q6good q c h3, (List.forall_mem_cons.2 ⟨q9good q c h4, (List.forall_mem_cons.2 ⟨q12good q c h5, (List.forall_mem_cons.2 ⟨q15good q c h6, (fun _ h => by cases h)⟩)⟩)⟩)⟩)⟩)⟩)))) (Rt5_7 q c (all_good h0))
    (.cons _ _ _ _ (.sym _ _ _ _ rfl) (.cons _ _ _ _ (.sym _ _ _ _ rfl) (.cons _ _ _ _ (.bool _) .nil))) w
def Tt5_8 : List SRule := [.bin .add (iv 1) (sv 5) (sv 6), .bin .leq (iv 10) (sv 6) (.bool true), .bin .leq (iv 20) (sv 6) (.bool true), .bin .leq (iv 30) (sv 6) (.bool true), .bin .leq (iv 40) (sv 6) (.bool true), .bin .leq (iv 50) (sv 6) (.bool true)]
def Lt5_8 : List Seg := [q0, q3, q6, q9, q12, q15]
theorem Ct5_8 : chk kR 8 (fun m => Tt5_8.all (ruleP m) && (u0.all (ruleP m) && (u3.all (ruleP m) && (u6.all (ruleP m) && (u9.all (ruleP m) && (u12.all (ruleP m) && (u15.all (ruleP m) && true))))))) = true := by kernel_rfl
theorem Rt5_8 (q c : Int) (ok : ∀ r ∈ Tt5_8, r.good (qv q c)) : isTrue (@callFF (SVq q c) (@SymT.mk (SVq q c) Tt5_8 ok) Tryz.prog ⟨506, 508, 376⟩ (primOr (prim1 10 primTrue) (primOr (modPrim 4) (segPrim [15, 19, 26, 25] Lt5_8))) 100000 200 4 [sv 0, sv 1, .bool true] m1) = true := by kernel_rfl
theorem Wt5_8 (q c : Int) (hc : Int.emod c 8 = 4) (hk : kR (mN q) = 8) (w : World) :
    Calls Tryz.prog 4 ⟨[.int .i64 q, .int .i64 c, .bool true]⟩ w fun e w' => e = .returned (.bool true) ∧ Below w.heap.size w w' := by
  have hh := chk_at Ct5_8 hk
  simp only [Bool.and_eq_true] at hh
  obtain ⟨h0, h1, h2, h3, h4, h5, h6, _⟩ := hh
  letI SV : SymV := SVq q c
  letI ST : SymT := ⟨Tt5_8, all_good h0⟩
  exact true_call pok (primOr_ok (prim1_ok awake) (primOr_ok (modPrim_ok q c 4 (modC4 q c hc)) (segPrim_ok (l := Lt5_8) (List.forall_mem_cons.2 ⟨q0good q c h1, (List.forall_mem_cons.2 ⟨q3good q c h2, (List.forall_mem_cons.2 ⟨q6good q c h3, (List.forall_mem_cons.2 ⟨q9good q c h4, (List.forall_mem_cons.2 ⟨q12good q c h5, (List.forall_mem_cons.2 ⟨q15good q c h6, (fun _ h => by cases h)⟩)⟩)⟩)⟩)⟩)⟩)))) (Rt5_8 q c (all_good h0))
    (.cons _ _ _ _ (.sym _ _ _ _ rfl) (.cons _ _ _ _ (.sym _ _ _ _ rfl) (.cons _ _ _ _ (.bool _) .nil))) w
def Tt6_0 : List SRule := [.bin .add (iv 1) (sv 5) (sv 6), .bin .leq (iv 10) (sv 6) (.bool false)]
def Lt6_0 : List Seg := [q0, q1, q2]
theorem Ct6_0 : chk kR 0 (fun m => Tt6_0.all (ruleP m) && (u0.all (ruleP m) && (u1.all (ruleP m) && (u2.all (ruleP m) && true)))) = true := by kernel_rfl
theorem Rt6_0 (q c : Int) (ok : ∀ r ∈ Tt6_0, r.good (qv q c)) : isTrue (@callFF (SVq q c) (@SymT.mk (SVq q c) Tt6_0 ok) Tryz.prog ⟨506, 508, 376⟩ (primOr (prim1 10 primTrue) (primOr (modPrim 5) (segPrim [15, 19, 26, 25] Lt6_0))) 100000 200 4 [sv 0, sv 1, .bool true] m1) = true := by kernel_rfl
theorem Wt6_0 (q c : Int) (hc : Int.emod c 8 = 5) (hk : kR (mN q) = 0) (w : World) :
    Calls Tryz.prog 4 ⟨[.int .i64 q, .int .i64 c, .bool true]⟩ w fun e w' => e = .returned (.bool true) ∧ Below w.heap.size w w' := by
  have hh := chk_at Ct6_0 hk
  simp only [Bool.and_eq_true] at hh
  obtain ⟨h0, h1, h2, h3, _⟩ := hh
  letI SV : SymV := SVq q c
  letI ST : SymT := ⟨Tt6_0, all_good h0⟩
  exact true_call pok (primOr_ok (prim1_ok awake) (primOr_ok (modPrim_ok q c 5 (modC5 q c hc)) (segPrim_ok (l := Lt6_0) (List.forall_mem_cons.2 ⟨q0good q c h1, (List.forall_mem_cons.2 ⟨q1good q c h2, (List.forall_mem_cons.2 ⟨q2good q c h3, (fun _ h => by cases h)⟩)⟩)⟩)))) (Rt6_0 q c (all_good h0))
    (.cons _ _ _ _ (.sym _ _ _ _ rfl) (.cons _ _ _ _ (.sym _ _ _ _ rfl) (.cons _ _ _ _ (.bool _) .nil))) w
def Tt6_1 : List SRule := [.bin .add (iv 1) (sv 5) (sv 6), .bin .leq (iv 10) (sv 6) (.bool true), .bin .leq (iv 20) (sv 6) (.bool false)]
def Lt6_1 : List Seg := [q0, q3, q4, q5]
theorem Ct6_1 : chk kR 1 (fun m => Tt6_1.all (ruleP m) && (u0.all (ruleP m) && (u3.all (ruleP m) && (u4.all (ruleP m) && (u5.all (ruleP m) && true))))) = true := by kernel_rfl
theorem Rt6_1 (q c : Int) (ok : ∀ r ∈ Tt6_1, r.good (qv q c)) : isTrue (@callFF (SVq q c) (@SymT.mk (SVq q c) Tt6_1 ok) Tryz.prog ⟨506, 508, 376⟩ (primOr (prim1 10 primTrue) (primOr (modPrim 5) (segPrim [15, 19, 26, 25] Lt6_1))) 100000 200 4 [sv 0, sv 1, .bool true] m1) = true := by kernel_rfl
theorem Wt6_1 (q c : Int) (hc : Int.emod c 8 = 5) (hk : kR (mN q) = 1) (w : World) :
    Calls Tryz.prog 4 ⟨[.int .i64 q, .int .i64 c, .bool true]⟩ w fun e w' => e = .returned (.bool true) ∧ Below w.heap.size w w' := by
  have hh := chk_at Ct6_1 hk
  simp only [Bool.and_eq_true] at hh
  obtain ⟨h0, h1, h2, h3, h4, _⟩ := hh
  letI SV : SymV := SVq q c
  letI ST : SymT := ⟨Tt6_1, all_good h0⟩
  exact true_call pok (primOr_ok (prim1_ok awake) (primOr_ok (modPrim_ok q c 5 (modC5 q c hc)) (segPrim_ok (l := Lt6_1) (List.forall_mem_cons.2 ⟨q0good q c h1, (List.forall_mem_cons.2 ⟨q3good q c h2, (List.forall_mem_cons.2 ⟨q4good q c h3, (List.forall_mem_cons.2 ⟨q5good q c h4, (fun _ h => by cases h)⟩)⟩)⟩)⟩)))) (Rt6_1 q c (all_good h0))
    (.cons _ _ _ _ (.sym _ _ _ _ rfl) (.cons _ _ _ _ (.sym _ _ _ _ rfl) (.cons _ _ _ _ (.bool _) .nil))) w
def Tt6_2 : List SRule := [.bin .add (iv 1) (sv 5) (sv 6), .bin .leq (iv 10) (sv 6) (.bool true), .bin .leq (iv 20) (sv 6) (.bool true), .bin .leq (iv 30) (sv 6) (.bool false)]
def Lt6_2 : List Seg := [q0, q3, q6, q7, q8]
theorem Ct6_2 : chk kR 2 (fun m => Tt6_2.all (ruleP m) && (u0.all (ruleP m) && (u3.all (ruleP m) && (u6.all (ruleP m) && (u7.all (ruleP m) && (u8.all (ruleP m) && true)))))) = true := by kernel_rfl
theorem Rt6_2 (q c : Int) (ok : ∀ r ∈ Tt6_2, r.good (qv q c)) : isTrue (@callFF (SVq q c) (@SymT.mk (SVq q c) Tt6_2 ok) Tryz.prog ⟨506, 508, 376⟩ (primOr (prim1 10 primTrue) (primOr (modPrim 5) (segPrim [15, 19, 26, 25] Lt6_2))) 100000 200 4 [sv 0, sv 1, .bool true] m1) = true := by kernel_rfl
theorem Wt6_2 (q c : Int) (hc : Int.emod c 8 = 5) (hk : kR (mN q) = 2) (w : World) :
    Calls Tryz.prog 4 ⟨[.int .i64 q, .int .i64 c, .bool true]⟩ w fun e w' => e = .returned (.bool true) ∧ Below w.heap.size w w' := by
  have hh := chk_at Ct6_2 hk
  simp only [Bool.and_eq_true] at hh
  obtain ⟨h0, h1, h2, h3, h4, h5, _⟩ := hh
  letI SV : SymV := SVq q c
  letI ST : SymT := ⟨Tt6_2, all_good h0⟩
  exact true_call pok (primOr_ok (prim1_ok awake) (primOr_ok (modPrim_ok q c 5 (modC5 q c hc)) (segPrim_ok (l := Lt6_2) (List.forall_mem_cons.2 ⟨q0good q c h1, (List.forall_mem_cons.2 ⟨q3good q c h2, (List.forall_mem_cons.2 ⟨q6good q c h3, (List.forall_mem_cons.2 ⟨q7good q c h4, (List.forall_mem_cons.2 ⟨q8good q c h5, (fun _ h => by cases h)⟩)⟩)⟩)⟩)⟩)))) (Rt6_2 q c (all_good h0))
    (.cons _ _ _ _ (.sym _ _ _ _ rfl) (.cons _ _ _ _ (.sym _ _ _ _ rfl) (.cons _ _ _ _ (.bool _) .nil))) w
def Tt6_3 : List SRule := [.bin .add (iv 1) (sv 5) (sv 6), .bin .leq (iv 10) (sv 6) (.bool true), .bin .leq (iv 20) (sv 6) (.bool true), .bin .leq (iv 30) (sv 6) (.bool true), .bin .leq (iv 40) (sv 6) (.bool false)]
def Lt6_3 : List Seg := [q0, q3, q6, q9, q10, q11]
theorem Ct6_3 : chk kR 3 (fun m => Tt6_3.all (ruleP m) && (u0.all (ruleP m) && (u3.all (ruleP m) && (u6.all (ruleP m) && (u9.all (ruleP m) && (u10.all (ruleP m) && (u11.all (ruleP m) && true))))))) = true := by kernel_rfl
theorem Rt6_3 (q c : Int) (ok : ∀ r ∈ Tt6_3, r.good (qv q c)) : isTrue (@callFF (SVq q c) (@SymT.mk (SVq q c) Tt6_3 ok) Tryz.prog ⟨506, 508, 376⟩ (primOr (prim1 10 primTrue) (primOr (modPrim 5) (segPrim [15, 19, 26, 25] Lt6_3))) 100000 200 4 [sv 0, sv 1, .bool true] m1) = true := by kernel_rfl
theorem Wt6_3 (q c : Int) (hc : Int.emod c 8 = 5) (hk : kR (mN q) = 3) (w : World) :
    Calls Tryz.prog 4 ⟨[.int .i64 q, .int .i64 c, .bool true]⟩ w fun e w' => e = .returned (.bool true) ∧ Below w.heap.size w w' := by
  have hh := chk_at Ct6_3 hk
  simp only [Bool.and_eq_true] at hh
  obtain ⟨h0, h1, h2, h3, h4, h5, h6, _⟩ := hh
  letI SV : SymV := SVq q c
  letI ST : SymT := ⟨Tt6_3, all_good h0⟩
  exact true_call pok (primOr_ok (prim1_ok awake) (primOr_ok (modPrim_ok q c 5 (modC5 q c hc)) (segPrim_ok (l := Lt6_3) (List.forall_mem_cons.2 ⟨q0good q c h1, (List.forall_mem_cons.2 ⟨q3good q c h2, (List.forall_mem_cons.2 ⟨q6good q c h3, (List.forall_mem_cons.2 ⟨q9good q c h4, (List.forall_mem_cons.2 ⟨q10good q c h5, (List.forall_mem_cons.2 ⟨q11good q c h6, (fun _ h => by cases h)⟩)⟩)⟩)⟩)⟩)⟩)))) (Rt6_3 q c (all_good h0))
    (.cons _ _ _ _ (.sym _ _ _ _ rfl) (.cons _ _ _ _ (.sym _ _ _ _ rfl) (.cons _ _ _ _ (.bool _) .nil))) w
def Tt6_4 : List SRule := [.bin .add (iv 1) (sv 5) (sv 6), .bin .leq (iv 10) (sv 6) (.bool true), .bin .leq (iv 20) (sv 6) (.bool true), .bin .leq (iv 30) (sv 6) (.bool true), .bin .leq (iv 40) (sv 6) (.bool true), .bin .leq (iv 50) (sv 6) (.bool false)]
def Lt6_4 : List Seg := [q0, q3, q6, q9, q12, q13, q14]
theorem Ct6_4 : chk kR 4 (fun m => Tt6_4.all (ruleP m) && (u0.all (ruleP m) && (u3.all (ruleP m) && (u6.all (ruleP m) && (u9.all (ruleP m) && (u12.all (ruleP m) && (u13.all (ruleP m) && (u14.all (ruleP m) && true)))))))) = true := by kernel_rfl
theorem Rt6_4 (q c : Int) (ok : ∀ r ∈ Tt6_4, r.good (qv q c)) : isTrue (@callFF (SVq q c) (@SymT.mk (SVq q c) Tt6_4 ok) Tryz.prog ⟨506, 508, 376⟩ (primOr (prim1 10 primTrue) (primOr (modPrim 5) (segPrim [15, 19, 26, 25] Lt6_4))) 100000 200 4 [sv 0, sv 1, .bool true] m1) = true := by kernel_rfl
theorem Wt6_4 (q c : Int) (hc : Int.emod c 8 = 5) (hk : kR (mN q) = 4) (w : World) :
    Calls Tryz.prog 4 ⟨[.int .i64 q, .int .i64 c, .bool true]⟩ w fun e w' => e = .returned (.bool true) ∧ Below w.heap.size w w' := by
  have hh := chk_at Ct6_4 hk
  simp only [Bool.and_eq_true] at hh
  obtain ⟨h0, h1, h2, h3, h4, h5, h6, h7, _⟩ := hh
  letI SV : SymV := SVq q c
  letI ST : SymT := ⟨Tt6_4, all_good h0⟩
  exact true_call pok (primOr_ok (prim1_ok awake) (primOr_ok (modPrim_ok q c 5 (modC5 q c hc)) (segPrim_ok (l := Lt6_4) (List.forall_mem_cons.2 ⟨q0good q c h1, (List.forall_mem_cons.2 ⟨q3good q c h2, (List.forall_mem_cons.2 ⟨q6good q c h3, (List.forall_mem_cons.2 ⟨q9good q c h4, (List.forall_mem_cons.2 ⟨q12good q c h5, (List.forall_mem_cons.2 ⟨q13good q c h6, (List.forall_mem_cons.2 ⟨q14good q c h7, (fun _ h => by cases h)⟩)⟩)⟩)⟩)⟩)⟩)⟩)))) (Rt6_4 q c (all_good h0))
    (.cons _ _ _ _ (.sym _ _ _ _ rfl) (.cons _ _ _ _ (.sym _ _ _ _ rfl) (.cons _ _ _ _ (.bool _) .nil))) w
def Tt6_5 : List SRule := [.bin .add (iv 1) (sv 5) (sv 6), .bin .leq (iv 10) (sv 6) (.bool true), .bin .leq (iv 20) (sv 6) (.bool true), .bin .leq (iv 30) (sv 6) (.bool true), .bin .leq (iv 40) (sv 6) (.bool true), .bin .leq (iv 50) (sv 6) (.bool true), .bin .leq (iv 60) (sv 6) (.bool false)]
def Lt6_5 : List Seg := [q0, q3, q6, q9, q12, q15, q16, q17]
theorem Ct6_5 : chk kR 5 (fun m => Tt6_5.all (ruleP m) && (u0.all (ruleP m) && (u3.all (ruleP m) && (u6.all (ruleP m) && (u9.all (ruleP m) && (u12.all (ruleP m) && (u15.all (ruleP m) && (u16.all (ruleP m) && (u17.all (ruleP m) && true))))))))) = true := by kernel_rfl
theorem Rt6_5 (q c : Int) (ok : ∀ r ∈ Tt6_5, r.good (qv q c)) : isTrue (@callFF (SVq q c) (@SymT.mk (SVq q c) Tt6_5 ok) Tryz.prog ⟨506, 508, 376⟩ (primOr (prim1 10 primTrue) (primOr (modPrim 5) (segPrim [15, 19, 26, 25] Lt6_5))) 100000 200 4 [sv 0, sv 1, .bool true] m1) = true := by kernel_rfl
theorem Wt6_5 (q c : Int) (hc : Int.emod c 8 = 5) (hk : kR (mN q) = 5) (w : World) :
    Calls Tryz.prog 4 ⟨[.int .i64 q, .int .i64 c, .bool true]⟩ w fun e w' => e = .returned (.bool true) ∧ Below w.heap.size w w' := by
  have hh := chk_at Ct6_5 hk
  simp only [Bool.and_eq_true] at hh
  obtain ⟨h0, h1, h2, h3, h4, h5, h6, h7, h8, _⟩ := hh
  letI SV : SymV := SVq q c
  letI ST : SymT := ⟨Tt6_5, all_good h0⟩
  exact true_call pok (primOr_ok (prim1_ok awake) (primOr_ok (modPrim_ok q c 5 (modC5 q c hc)) (segPrim_ok (l := Lt6_5) (List.forall_mem_cons.2 ⟨q0good q c h1, (List.forall_mem_cons.2 ⟨q3good q c h2, (List.forall_mem_cons.2 ⟨q6good q c h3, (List.forall_mem_cons.2 ⟨q9good q c h4, (List.forall_mem_cons.2 ⟨q12good q c h5, (List.forall_mem_cons.2 ⟨q15good q c h6, (List.forall_mem_cons.2 ⟨q16good q c h7, (List.forall_mem_cons.2 ⟨q17good q c h8, (fun _ h => by cases h)⟩)⟩)⟩)⟩)⟩)⟩)⟩)⟩)))) (Rt6_5 q c (all_good h0))
    (.cons _ _ _ _ (.sym _ _ _ _ rfl) (.cons _ _ _ _ (.sym _ _ _ _ rfl) (.cons _ _ _ _ (.bool _) .nil))) w
def Tt6_6 : List SRule := [.bin .add (iv 1) (sv 5) (sv 6), .bin .leq (iv 10) (sv 6) (.bool true), .bin .leq (iv 20) (sv 6) (.bool true), .bin .leq (iv 30) (sv 6) (.bool true), .bin .leq (iv 40) (sv 6) (.bool true), .bin .leq (iv 50) (sv 6) (.bool true), .bin .leq (iv 60) (sv 6) (.bool true)]
def Lt6_6 : List Seg := [q0, q3, q6, q9, q12, q15, q18]
theorem Ct6_6 : chk kR 6 (fun m => Tt6_6.all (ruleP m) && (u0.all (ruleP m) && (u3.all (ruleP m) && (u6.all (ruleP m) && (u9.all (ruleP m) && (u12.all (ruleP m) && (u15.all (ruleP m) && (u18.all (ruleP m) && true)))))))) = true := by kernel_rfl
theorem Rt6_6 (q c : Int) (ok : ∀ r ∈ Tt6_6, r.good (qv q c)) : isTrue (@callFF (SVq q c) (@SymT.mk (SVq q c) Tt6_6 ok) Tryz.prog ⟨506, 508, 376⟩ (primOr (prim1 10 primTrue) (primOr (modPrim 5) (segPrim [15, 19, 26, 25] Lt6_6))) 100000 200 4 [sv 0, sv 1, .bool true] m1) = true := by kernel_rfl
theorem Wt6_6 (q c : Int) (hc : Int.emod c 8 = 5) (hk : kR (mN q) = 6) (w : World) :
    Calls Tryz.prog 4 ⟨[.int .i64 q, .int .i64 c, .bool true]⟩ w fun e w' => e = .returned (.bool true) ∧ Below w.heap.size w w' := by
  have hh := chk_at Ct6_6 hk
  simp only [Bool.and_eq_true] at hh
  obtain ⟨h0, h1, h2, h3, h4, h5, h6, h7, _⟩ := hh
  letI SV : SymV := SVq q c
  letI ST : SymT := ⟨Tt6_6, all_good h0⟩
  exact true_call pok (primOr_ok (prim1_ok awake) (primOr_ok (modPrim_ok q c 5 (modC5 q c hc)) (segPrim_ok (l := Lt6_6) (List.forall_mem_cons.2 ⟨q0good q c h1, (List.forall_mem_cons.2 ⟨q3good q c h2, (List.forall_mem_cons.2 ⟨q6good q c h3, (List.forall_mem_cons.2 ⟨q9good q c h4, (List.forall_mem_cons.2 ⟨q12good q c h5, (List.forall_mem_cons.2 ⟨q15good q c h6, (List.forall_mem_cons.2 ⟨q18good q c h7, (fun _ h => by cases h)⟩)⟩)⟩)⟩)⟩)⟩)⟩)))) (Rt6_6 q c (all_good h0))
    (.cons _ _ _ _ (.sym _ _ _ _ rfl) (.cons _ _ _ _ (.sym _ _ _ _ rfl) (.cons _ _ _ _ (.bool _) .nil))) w
def Tt6_7 : List SRule := [.bin .add (iv 1) (sv 5) (sv 6), .bin .leq (iv 10) (sv 6) (.bool true), .bin .leq (iv 20) (sv 6) (.bool true), .bin .leq (iv 30) (sv 6) (.bool true), .bin .leq (iv 40) (sv 6) (.bool true), .bin .leq (iv 50) (sv 6) (.bool true), .bin .leq (iv 60) (sv 6) (.bool true)]
def Lt6_7 : List Seg := [q0, q3, q6, q9, q12, q15, q18]
theorem Ct6_7 : chk kR 7 (fun m => Tt6_7.all (ruleP m) && (u0.all (ruleP m) && (u3.all (ruleP m) && (u6.all (ruleP m) && (u9.all (ruleP m) && (u12.all (ruleP m) && (u15.all (ruleP m) && (u18.all (ruleP m) && true)))))))) = true := by kernel_rfl
theorem Rt6_7 (q c : Int) (ok : ∀ r ∈ Tt6_7, r.good (qv q c)) : isTrue (@callFF (SVq q c) (@SymT.mk (SVq q c) Tt6_7 ok) Tryz.prog ⟨506, 508, 376⟩ (primOr (prim1 10 primTrue) (primOr (modPrim 5) (segPrim [15, 19, 26, 25] Lt6_7))) 100000 200 4 [sv 0, sv 1, .bool true] m1) = true := by kernel_rfl
theorem Wt6_7 (q c : Int) (hc : Int.emod c 8 = 5) (hk : kR (mN q) = 7) (w : World) :
    Calls Tryz.prog 4 ⟨[.int .i64 q, .int .i64 c, .bool true]⟩ w fun e w' => e = .returned (.bool true) ∧ Below w.heap.size w w' := by
  have hh := chk_at Ct6_7 hk
  simp only [Bool.and_eq_true] at hh
  obtain ⟨h0, h1, h2, h3, h4, h5, h6, h7, _⟩ := hh
  letI SV : SymV := SVq q c
  letI ST : SymT := ⟨Tt6_7, all_good h0⟩
  exact true_call pok (primOr_ok (prim1_ok awake) (primOr_ok (modPrim_ok q c 5 (modC5 q c hc)) (segPrim_ok (l := Lt6_7) (List.forall_mem_cons.2 ⟨q0good q c h1, (List.forall_mem_cons.2 ⟨q3good q c h2, (List.forall_mem_cons.2 ⟨q6good q c h3, (List.forall_mem_cons.2 ⟨q9good q c h4, (List.forall_mem_cons.2 ⟨q12good q c h5, (List.forall_mem_cons.2 ⟨q15good q c h6, (List.forall_mem_cons.2 ⟨q18good q c h7, (fun _ h => by cases h)⟩)⟩)⟩)⟩)⟩)⟩)⟩)))) (Rt6_7 q c (all_good h0))
    (.cons _ _ _ _ (.sym _ _ _ _ rfl) (.cons _ _ _ _ (.sym _ _ _ _ rfl) (.cons _ _ _ _ (.bool _) .nil))) w
def Tt6_8 : List SRule := [.bin .add (iv 1) (sv 5) (sv 6), .bin .leq (iv 10) (sv 6) (.bool true), .bin .leq (iv 20) (sv 6) (.bool true), .bin .leq (iv 30) (sv 6) (.bool true), .bin .leq (iv 40) (sv 6) (.bool true), .bin .leq (iv 50) (sv 6) (.bool true), .bin .leq (iv 60) (sv 6) (.bool true)]
def Lt6_8 : List Seg := [q0, q3, q6, q9, q12, q15, q18]
theorem Ct6_8 : chk kR 8 (fun m => Tt6_8.all (ruleP m) && (u0.all (ruleP m) && (u3.all (ruleP m) && (u6.all (ruleP m) && (u9.all (ruleP m) && (u12.all (ruleP m) && (u15.all (ruleP m) && (u18.all (ruleP m) && true)))))))) = true := by kernel_rfl
theorem Rt6_8 (q c : Int) (ok : ∀ r ∈ Tt6_8, r.good (qv q c)) : isTrue (@callFF (SVq q c) (@SymT.mk (SVq q c) Tt6_8 ok) Tryz.prog ⟨506, 508, 376⟩ (primOr (prim1 10 primTrue) (primOr (modPrim 5) (segPrim [15, 19, 26, 25] Lt6_8))) 100000 200 4 [sv 0, sv 1, .bool true] m1) = true := by kernel_rfl
theorem Wt6_8 (q c : Int) (hc : Int.emod c 8 = 5) (hk : kR (mN q) = 8) (w : World) :
    Calls Tryz.prog 4 ⟨[.int .i64 q, .int .i64 c, .bool true]⟩ w fun e w' => e = .returned (.bool true) ∧ Below w.heap.size w w' := by
  have hh := chk_at Ct6_8 hk
  simp only [Bool.and_eq_true] at hh
  obtain ⟨h0, h1, h2, h3, h4, h5, h6, h7, _⟩ := hh
  letI SV : SymV := SVq q c
  letI ST : SymT := ⟨Tt6_8, all_good h0⟩
  exact true_call pok (primOr_ok (prim1_ok awake) (primOr_ok (modPrim_ok q c 5 (modC5 q c hc)) (segPrim_ok (l := Lt6_8) (List.forall_mem_cons.2 ⟨q0good q c h1, (List.forall_mem_cons.2 ⟨q3good q c h2, (List.forall_mem_cons.2 ⟨q6good q c h3, (List.forall_mem_cons.2 ⟨q9good q c h4, (List.forall_mem_cons.2 ⟨q12good q c h5, (List.forall_mem_cons.2 ⟨q15good q c h6, (List.forall_mem_cons.2 ⟨q18good q c h7, (fun _ h => by cases h)⟩)⟩)⟩)⟩)⟩)⟩)⟩)))) (Rt6_8 q c (all_good h0))
    (.cons _ _ _ _ (.sym _ _ _ _ rfl) (.cons _ _ _ _ (.sym _ _ _ _ rfl) (.cons _ _ _ _ (.bool _) .nil))) w
def Tt7_0 : List SRule := [.bin .add (iv 1) (sv 5) (sv 6), .bin .leq (iv 10) (sv 6) (.bool false)]
def Lt7_0 : List Seg := [q0, q1, q2]
theorem Ct7_0 : chk kR 0 (fun m => Tt7_0.all (ruleP m) && (u0.all (ruleP m) && (u1.all (ruleP m) && (u2.all (ruleP m) && true)))) = true := by kernel_rfl
theorem Rt7_0 (q c : Int) (ok : ∀ r ∈ Tt7_0, r.good (qv q c)) : isTrue (@callFF (SVq q c) (@SymT.mk (SVq q c) Tt7_0 ok) Tryz.prog ⟨506, 508, 376⟩ (primOr (prim1 10 primTrue) (primOr (modPrim 6) (segPrim [15, 19, 26, 25] Lt7_0))) 100000 200 4 [sv 0, sv 1, .bool true] m1) = true := by kernel_rfl
theorem Wt7_0 (q c : Int) (hc : Int.emod c 8 = 6) (hk : kR (mN q) = 0) (w : World) :
    Calls Tryz.prog 4 ⟨[.int .i64 q, .int .i64 c, .bool true]⟩ w fun e w' => e = .returned (.bool true) ∧ Below w.heap.size w w' := by
  have hh := chk_at Ct7_0 hk
  simp only [Bool.and_eq_true] at hh
  obtain ⟨h0, h1, h2, h3, _⟩ := hh
  letI SV : SymV := SVq q c
  letI ST : SymT := ⟨Tt7_0, all_good h0⟩
  exact true_call pok (primOr_ok (prim1_ok awake) (primOr_ok (modPrim_ok q c 6 (modC6 q c hc)) (segPrim_ok (l := Lt7_0) (List.forall_mem_cons.2 ⟨q0good q c h1, (List.forall_mem_cons.2 ⟨q1good q c h2, (List.forall_mem_cons.2 ⟨q2good q c h3, (fun _ h => by cases h)⟩)⟩)⟩)))) (Rt7_0 q c (all_good h0))
    (.cons _ _ _ _ (.sym _ _ _ _ rfl) (.cons _ _ _ _ (.sym _ _ _ _ rfl) (.cons _ _ _ _ (.bool _) .nil))) w
def Tt7_1 : List SRule := [.bin .add (iv 1) (sv 5) (sv 6), .bin .leq (iv 10) (sv 6) (.bool true), .bin .leq (iv 20) (sv 6) (.bool false)]
def Lt7_1 : List Seg := [q0, q3, q4, q5]
theorem Ct7_1 : chk kR 1 (fun m => Tt7_1.all (ruleP m) && (u0.all (ruleP m) && (u3.all (ruleP m) && (u4.all (ruleP m) && (u5.all (ruleP m) && true))))) = true := by kernel_rfl
theorem Rt7_1 (q c : Int) (ok : ∀ r ∈ Tt7_1, r.good (qv q c)) : isTrue (@callFF (SVq q c) (@SymT.mk (SVq q c) Tt7_1 ok) Tryz.prog ⟨506, 508, 376⟩ (primOr (prim1 10 primTrue) (primOr (modPrim 6) (segPrim [15, 19, 26, 25] Lt7_1))) 100000 200 4 [sv 0, sv 1, .bool true] m1) = true := by kernel_rfl
theorem Wt7_1 (q c : Int) (hc : Int.emod c 8 = 6) (hk : kR (mN q) = 1) (w : World) :
    Calls Tryz.prog 4 ⟨[.int .i64 q, .int .i64 c, .bool true]⟩ w fun e w' => e = .returned (.bool true) ∧ Below w.heap.size w w' := by
  have hh := chk_at Ct7_1 hk
  simp only [Bool.and_eq_true] at hh
  obtain ⟨h0, h1, h2, h3, h4, _⟩ := hh
  letI SV : SymV := SVq q c
  letI ST : SymT := ⟨Tt7_1, all_good h0⟩
  exact true_call pok (primOr_ok (prim1_ok awake) (primOr_ok (modPrim_ok q c 6 (modC6 q c hc)) (segPrim_ok (l := Lt7_1) (List.forall_mem_cons.2 ⟨q0good q c h1, (List.forall_mem_cons.2 ⟨q3good q c h2, (List.forall_mem_cons.2 ⟨q4good q c h3, (List.forall_mem_cons.2 ⟨q5good q c h4, (fun _ h => by cases h)⟩)⟩)⟩)⟩)))) (Rt7_1 q c (all_good h0))
    (.cons _ _ _ _ (.sym _ _ _ _ rfl) (.cons _ _ _ _ (.sym _ _ _ _ rfl) (.cons _ _ _ _ (.bool _) .nil))) w
def Tt7_2 : List SRule := [.bin .add (iv 1) (sv 5) (sv 6), .bin .leq (iv 10) (sv 6) (.bool true), .bin .leq (iv 20) (sv 6) (.bool true), .bin .leq (iv 30) (sv 6) (.bool false)]
def Lt7_2 : List Seg := [q0, q3, q6, q7, q8]
theorem Ct7_2 : chk kR 2 (fun m => Tt7_2.all (ruleP m) && (u0.all (ruleP m) && (u3.all (ruleP m) && (u6.all (ruleP m) && (u7.all (ruleP m) && (u8.all (ruleP m) && true)))))) = true := by kernel_rfl
theorem Rt7_2 (q c : Int) (ok : ∀ r ∈ Tt7_2, r.good (qv q c)) : isTrue (@callFF (SVq q c) (@SymT.mk (SVq q c) Tt7_2 ok) Tryz.prog ⟨506, 508, 376⟩ (primOr (prim1 10 primTrue) (primOr (modPrim 6) (segPrim [15, 19, 26, 25] Lt7_2))) 100000 200 4 [sv 0, sv 1, .bool true] m1) = true := by kernel_rfl
theorem Wt7_2 (q c : Int) (hc : Int.emod c 8 = 6) (hk : kR (mN q) = 2) (w : World) :
    Calls Tryz.prog 4 ⟨[.int .i64 q, .int .i64 c, .bool true]⟩ w fun e w' => e = .returned (.bool true) ∧ Below w.heap.size w w' := by
  have hh := chk_at Ct7_2 hk
  simp only [Bool.and_eq_true] at hh
  obtain ⟨h0, h1, h2, h3, h4, h5, _⟩ := hh
  letI SV : SymV := SVq q c
  letI ST : SymT := ⟨Tt7_2, all_good h0⟩
  exact true_call pok (primOr_ok (prim1_ok awake) (primOr_ok (modPrim_ok q c 6 (modC6 q c hc)) (segPrim_ok (l := Lt7_2) (List.forall_mem_cons.2 ⟨q0good q c h1, (List.forall_mem_cons.2 ⟨q3good q c h2, (List.forall_mem_cons.2 ⟨q6good q c h3, (List.forall_mem_cons.2 ⟨q7good q c h4, (List.forall_mem_cons.2 ⟨q8good q c h5, (fun _ h => by cases h)⟩)⟩)⟩)⟩)⟩)))) (Rt7_2 q c (all_good h0))
    (.cons _ _ _ _ (.sym _ _ _ _ rfl) (.cons _ _ _ _ (.sym _ _ _ _ rfl) (.cons _ _ _ _ (.bool _) .nil))) w
def Tt7_3 : List SRule := [.bin .add (iv 1) (sv 5) (sv 6), .bin .leq (iv 10) (sv 6) (.bool true), .bin .leq (iv 20) (sv 6) (.bool true), .bin .leq (iv 30) (sv 6) (.bool true), .bin .leq (iv 40) (sv 6) (.bool false)]
def Lt7_3 : List Seg := [q0, q3, q6, q9, q10, q11]
theorem Ct7_3 : chk kR 3 (fun m => Tt7_3.all (ruleP m) && (u0.all (ruleP m) && (u3.all (ruleP m) && (u6.all (ruleP m) && (u9.all (ruleP m) && (u10.all (ruleP m) && (u11.all (ruleP m) && true))))))) = true := by kernel_rfl
theorem Rt7_3 (q c : Int) (ok : ∀ r ∈ Tt7_3, r.good (qv q c)) : isTrue (@callFF (SVq q c) (@SymT.mk (SVq q c) Tt7_3 ok) Tryz.prog ⟨506, 508, 376⟩ (primOr (prim1 10 primTrue) (primOr (modPrim 6) (segPrim [15, 19, 26, 25] Lt7_3))) 100000 200 4 [sv 0, sv 1, .bool true] m1) = true := by kernel_rfl
theorem Wt7_3 (q c : Int) (hc : Int.emod c 8 = 6) (hk : kR (mN q) = 3) (w : World) :
    Calls Tryz.prog 4 ⟨[.int .i64 q, .int .i64 c, .bool true]⟩ w fun e w' => e = .returned (.bool true) ∧ Below w.heap.size w w' := by
  have hh := chk_at Ct7_3 hk
  simp only [Bool.and_eq_true] at hh
  obtain ⟨h0, h1, h2, h3, h4, h5, h6, _⟩ := hh
  letI SV : SymV := SVq q c
  letI ST : SymT := ⟨Tt7_3, all_good h0⟩
  exact true_call pok (primOr_ok (prim1_ok awake) (primOr_ok (modPrim_ok q c 6 (modC6 q c hc)) (segPrim_ok (l := Lt7_3) (List.forall_mem_cons.2 ⟨q0good q c h1, (List.forall_mem_cons.2 ⟨q3good q c h2, (List.forall_mem_cons.2 ⟨q6good q c h3, (List.forall_mem_cons.2 ⟨q9good q c h4, (List.forall_mem_cons.2 ⟨q10good q c h5, (List.forall_mem_cons.2 ⟨q11good q c h6, (fun _ h => by cases h)⟩)⟩)⟩)⟩)⟩)⟩)))) (Rt7_3 q c (all_good h0))
    (.cons _ _ _ _ (.sym _ _ _ _ rfl) (.cons _ _ _ _ (.sym _ _ _ _ rfl) (.cons _ _ _ _ (.bool _) .nil))) w
def Tt7_4 : List SRule := [.bin .add (iv 1) (sv 5) (sv 6), .bin .leq (iv 10) (sv 6) (.bool true), .bin .leq (iv 20) (sv 6) (.bool true), .bin .leq (iv 30) (sv 6) (.bool true), .bin .leq (iv 40) (sv 6) (.bool true), .bin .leq (iv 50) (sv 6) (.bool false)]
def Lt7_4 : List Seg := [q0, q3, q6, q9, q12, q13, q14]
theorem Ct7_4 : chk kR 4 (fun m => Tt7_4.all (ruleP m) && (u0.all (ruleP m) && (u3.all (ruleP m) && (u6.all (ruleP m) && (u9.all (ruleP m) && (u12.all (ruleP m) && (u13.all (ruleP m) && (u14.all (ruleP m) && true)))))))) = true := by kernel_rfl
theorem Rt7_4 (q c : Int) (ok : ∀ r ∈ Tt7_4, r.good (qv q c)) : isTrue (@callFF (SVq q c) (@SymT.mk (SVq q c) Tt7_4 ok) Tryz.prog ⟨506, 508, 376⟩ (primOr (prim1 10 primTrue) (primOr (modPrim 6) (segPrim [15, 19, 26, 25] Lt7_4))) 100000 200 4 [sv 0, sv 1, .bool true] m1) = true := by kernel_rfl
theorem Wt7_4 (q c : Int) (hc : Int.emod c 8 = 6) (hk : kR (mN q) = 4) (w : World) :
    Calls Tryz.prog 4 ⟨[.int .i64 q, .int .i64 c, .bool true]⟩ w fun e w' => e = .returned (.bool true) ∧ Below w.heap.size w w' := by
  have hh := chk_at Ct7_4 hk
  simp only [Bool.and_eq_true] at hh
  obtain ⟨h0, h1, h2, h3, h4, h5, h6, h7, _⟩ := hh
  letI SV : SymV := SVq q c
  letI ST : SymT := ⟨Tt7_4, all_good h0⟩
  exact true_call pok (primOr_ok (prim1_ok awake) (primOr_ok (modPrim_ok q c 6 (modC6 q c hc)) (segPrim_ok (l := Lt7_4) (List.forall_mem_cons.2 ⟨q0good q c h1, (List.forall_mem_cons.2 ⟨q3good q c h2, (List.forall_mem_cons.2 ⟨q6good q c h3, (List.forall_mem_cons.2 ⟨q9good q c h4, (List.forall_mem_cons.2 ⟨q12good q c h5, (List.forall_mem_cons.2 ⟨q13good q c h6, (List.forall_mem_cons.2 ⟨q14good q c h7, (fun _ h => by cases h)⟩)⟩)⟩)⟩)⟩)⟩)⟩)))) (Rt7_4 q c (all_good h0))
    (.cons _ _ _ _ (.sym _ _ _ _ rfl) (.cons _ _ _ _ (.sym _ _ _ _ rfl) (.cons _ _ _ _ (.bool _) .nil))) w
def Tt7_5 : List SRule := [.bin .add (iv 1) (sv 5) (sv 6), .bin .leq (iv 10) (sv 6) (.bool true), .bin .leq (iv 20) (sv 6) (.bool true), .bin .leq (iv 30) (sv 6) (.bool true), .bin .leq (iv 40) (sv 6) (.bool true), .bin .leq (iv 50) (sv 6) (.bool true), .bin .leq (iv 60) (sv 6) (.bool false)]
def Lt7_5 : List Seg := [q0, q3, q6, q9, q12, q15, q16, q17]
theorem Ct7_5 : chk kR 5 (fun m => Tt7_5.all (ruleP m) && (u0.all (ruleP m) && (u3.all (ruleP m) && (u6.all (ruleP m) && (u9.all (ruleP m) && (u12.all (ruleP m) && (u15.all (ruleP m) && (u16.all (ruleP m) && (u17.all (ruleP m) && true))))))))) = true := by kernel_rfl
theorem Rt7_5 (q c : Int) (ok : ∀ r ∈ Tt7_5, r.good (qv q c)) : isTrue (@callFF (SVq q c) (@SymT.mk (SVq q c) Tt7_5 ok) Tryz.prog ⟨506, 508, 376⟩ (primOr (prim1 10 primTrue) (primOr (modPrim 6) (segPrim [15, 19, 26, 25] Lt7_5))) 100000 200 4 [sv 0, sv 1, .bool true] m1) = true := by kernel_rfl
theorem Wt7_5 (q c : Int) (hc : Int.emod c 8 = 6) (hk : kR (mN q) = 5) (w : World) :
    Calls Tryz.prog 4 ⟨[.int .i64 q, .int .i64 c, .bool true]⟩ w fun e w' => e = .returned (.bool true) ∧ Below w.heap.size w w' := by
  have hh := chk_at Ct7_5 hk
  simp only [Bool.and_eq_true] at hh
  obtain ⟨h0, h1, h2, h3, h4, h5, h6, h7, h8, _⟩ := hh
  letI SV : SymV := SVq q c
  letI ST : SymT := ⟨Tt7_5, all_good h0⟩
  exact true_call pok (primOr_ok (prim1_ok awake) (primOr_ok (modPrim_ok q c 6 (modC6 q c hc)) (segPrim_ok (l := Lt7_5) (List.forall_mem_cons.2 ⟨q0good q c h1, (List.forall_mem_cons.2 ⟨q3good q c h2, (List.forall_mem_cons.2 ⟨q6good q c h3, (List.forall_mem_cons.2 ⟨q9good q c h4, (List.forall_mem_cons.2 ⟨q12good q c h5, (List.forall_mem_cons.2 ⟨q15good q c h6, (List.forall_mem_cons.2 ⟨q16good q c h7, (List.forall_mem_cons.2 ⟨q17good q c h8, (fun _ h => by cases h)⟩)⟩)⟩)⟩)⟩)⟩)⟩)⟩)))) (Rt7_5 q c (all_good h0))
    (.cons _ _ _ _ (.sym _ _ _ _ rfl) (.cons _ _ _ _ (.sym _ _ _ _ rfl) (.cons _ _ _ _ (.bool _) .nil))) w
def Tt7_6 : List SRule := [.bin .add (iv 1) (sv 5) (sv 6), .bin .leq (iv 10) (sv 6) (.bool true), .bin .leq (iv 20) (sv 6) (.bool true), .bin .leq (iv 30) (sv 6) (.bool true), .bin .leq (iv 40) (sv 6) (.bool true), .bin .leq (iv 50) (sv 6) (.bool true), .bin .leq (iv 60) (sv 6) (.bool true), .bin .leq (iv 70) (sv 6) (.bool false)]
def Lt7_6 : List Seg := [q0, q3, q6, q9, q12, q15, q18, q19, q20]
theorem Ct7_6 : chk kR 6 (fun m => Tt7_6.all (ruleP m) && (u0.all (ruleP m) && (u3.all (ruleP m) && (u6.all (ruleP m) && (u9.all (ruleP m) && (u12.all (ruleP m) && (u15.all (ruleP m) && (u18.all (ruleP m) && (u19.all (ruleP m) && (u20.all (ruleP m) && true)))))))))) = true := by kernel_rfl
theorem Rt7_6 (q c : Int) (ok : ∀ r ∈ Tt7_6, r.good (qv q c)) : isTrue (@callFF (SVq q c) (@SymT.mk (SVq q c) Tt7_6 ok) Tryz.prog ⟨506, 508, 376⟩ (primOr (prim1 10 primTrue) (primOr (modPrim 6) (segPrim [15, 19, 26, 25] Lt7_6))) 100000 200 4 [sv 0, sv 1, .bool true] m1) = true := by kernel_rfl
theorem Wt7_6 (q c : Int) (hc : Int.emod c 8 = 6) (hk : kR (mN q) = 6) (w : World) :
    Calls Tryz.prog 4 ⟨[.int .i64 q, .int .i64 c, .bool true]⟩ w fun e w' => e = .returned (.bool true) ∧ Below w.heap.size w w' := by
  have hh := chk_at Ct7_6 hk
  simp only [Bool.and_eq_true] at hh
  obtain ⟨h0, h1, h2, h3, h4, h5, h6, h7, h8, h9, _⟩ := hh
  letI SV : SymV := SVq q c
  letI ST : SymT := ⟨Tt7_6, all_good h0⟩
  exact true_call pok (primOr_ok (prim1_ok awake) (primOr_ok (modPrim_ok q c 6 (modC6 q c hc)) (segPrim_ok (l := Lt7_6) (List.forall_mem_cons.2 ⟨q0good q c h1, (List.forall_mem_cons.2 ⟨q3good q c h2, (List.forall_mem_cons.2 ⟨q6good q c h3, (List.forall_mem_cons.2 ⟨q9good q c h4, (List.forall_mem_cons.2 ⟨q12good q c h5, (List.forall_mem_cons.2 ⟨q15good q c h6, (List.forall_mem_cons.2 ⟨q18good q c h7, (List.forall_mem_cons.2 ⟨q19good q c h8, (List.forall_mem_cons.2 ⟨q20good q c h9, (fun _ h => by cases h)⟩)⟩)⟩)⟩)⟩)⟩)⟩)⟩)⟩)))) (Rt7_6 q c (all_good h0))
    (.cons _ _ _ _ (.sym _ _ _ _ rfl) (.cons _ _ _ _ (.sym _ _ _ _ rfl) (.cons _ _ _ _ (.bool _) .nil))) w
def Tt7_7 : List SRule := [.bin .add (iv 1) (sv 5) (sv 6), .bin .leq (iv 10) (sv 6) (.bool true), .bin .leq (iv 20) (sv 6) (.bool true), .bin .leq (iv 30) (sv 6) (.bool true), .bin .leq (iv 40) (sv 6) (.bool true), .bin .leq (iv 50) (sv 6) (.bool true), .bin .leq (iv 60) (sv 6) (.bool true), .bin .leq (iv 70) (sv 6) (.bool true)]
def Lt7_7 : List Seg := [q0, q3, q6, q9, q12, q15, q18, q21]
theorem Ct7_7 : chk kR 7 (fun m => Tt7_7.all (ruleP m) && (u0.all (ruleP m) && (u3.all (ruleP m) && (u6.all (ruleP m) && (u9.all (ruleP m) && (u12.all (ruleP m) && (u15.all (ruleP m) && (u18.all (ruleP m) && (u21.all (ruleP m) && true))))))))) = true := by kernel_rfl
theorem Rt7_7 (q c : Int) (ok : ∀ r ∈ Tt7_7, r.good (qv q c)) : isTrue (@callFF (SVq q c) (@SymT.mk (SVq q c) Tt7_7 ok) Tryz.prog ⟨506, 508, 376⟩ (primOr (prim1 10 primTrue) (primOr (modPrim 6) (segPrim [15, 19, 26, 25] Lt7_7))) 100000 200 4 [sv 0, sv 1, .bool true] m1) = true := by kernel_rfl
theorem Wt7_7 (q c : Int) (hc : Int.emod c 8 = 6) (hk : kR (mN q) = 7) (w : World) :
    Calls Tryz.prog 4 ⟨[.int .i64 q, .int .i64 c, .bool true]⟩ w fun e w' => e = .returned (.bool true) ∧ Below w.heap.size w w' := by
  have hh := chk_at Ct7_7 hk
  simp only [Bool.and_eq_true] at hh
  obtain ⟨h0, h1, h2, h3, h4, h5, h6, h7, h8, _⟩ := hh
  letI SV : SymV := SVq q c
  letI ST : SymT := ⟨Tt7_7, all_good h0⟩
  exact true_call pok (primOr_ok (prim1_ok awake) (primOr_ok (modPrim_ok q c 6 (modC6 q c hc)) (segPrim_ok (l := Lt7_7) (List.forall_mem_cons.2 ⟨q0good q c h1, (List.forall_mem_cons.2 ⟨q3good q c h2, (List.forall_mem_cons.2 ⟨q6good q c h3, (List.forall_mem_cons.2 ⟨q9good q c h4, (List.forall_mem_cons.2 ⟨q12good q c h5, (List.forall_mem_cons.2 ⟨q15good q c h6, (List.forall_mem_cons.2 ⟨q18good q c h7, (List.forall_mem_cons.2 ⟨q21good q c h8, (fun _ h => by cases h)⟩)⟩)⟩)⟩)⟩)⟩)⟩)⟩)))) (Rt7_7 q c (all_good h0))
    (.cons _ _ _ _ (.sym _ _ _ _ rfl) (.cons _ _ _ _ (.sym _ _ _ _ rfl) (.cons _ _ _ _ (.bool _) .nil))) w
def Tt7_8 : List SRule := [.bin .add (iv 1) (sv 5) (sv 6), .bin .leq (iv 10) (sv 6) (.bool true), .bin .leq (iv 20) (sv 6) (.bool true), .bin .leq (iv 30) (sv 6) (.bool true), .bin .leq (iv 40) (sv 6) (.bool true), .bin .leq (iv 50) (sv 6) (.bool true), .bin .leq (iv 60) (sv 6) (.bool true), .bin .leq (iv 70) (sv 6) (.bool true)]
def Lt7_8 : List Seg := [q0, q3, q6, q9, q12, q15, q18, q21]
theorem Ct7_8 : chk kR 8 (fun m => Tt7_8.all (ruleP m) && (u0.all (ruleP m) && (u3.all (ruleP m) && (u6.all (ruleP m) && (u9.all (ruleP m) && (u12.all (ruleP m) && (u15.all (ruleP m) && (u18.all (ruleP m) && (u21.all (ruleP m) && true))))))))) = true := by kernel_rfl
theorem Rt7_8 (q c : Int) (ok : ∀ r ∈ Tt7_8, r.good (qv q c)) : isTrue (@callFF (SVq q c) (@SymT.mk (SVq q c) Tt7_8 ok) Tryz.prog ⟨506, 508, 376⟩ (primOr (prim1 10 primTrue) (primOr (modPrim 6) (segPrim [15, 19, 26, 25] Lt7_8))) 100000 200 4 [sv 0, sv 1, .bool true] m1) = true := by kernel_rfl
theorem Wt7_8 (q c : Int) (hc : Int.emod c 8 = 6) (hk : kR (mN q) = 8) (w : World) :
    Calls Tryz.prog 4 ⟨[.int .i64 q, .int .i64 c, .bool true]⟩ w fun e w' => e = .returned (.bool true) ∧ Below w.heap.size w w' := by
  have hh := chk_at Ct7_8 hk
  simp only [Bool.and_eq_true] at hh
  obtain ⟨h0, h1, h2, h3, h4, h5, h6, h7, h8, _⟩ := hh
  letI SV : SymV := SVq q c
  letI ST : SymT := ⟨Tt7_8, all_good h0⟩
  exact true_call pok (primOr_ok (prim1_ok awake) (primOr_ok (modPrim_ok q c 6 (modC6 q c hc)) (segPrim_ok (l := Lt7_8) (List.forall_mem_cons.2 ⟨q0good q c h1, (List.forall_mem_cons.2 ⟨q3good q c h2, (List.forall_mem_cons.2 ⟨q6good q c h3, (List.forall_mem_cons.2 ⟨q9good q c h4, (List.forall_mem_cons.2 ⟨q12good q c h5, (List.forall_mem_cons.2 ⟨q15good q c h6, (List.forall_mem_cons.2 ⟨q18good q c h7, (List.forall_mem_cons.2 ⟨q21good q c h8, (fun _ h => by cases h)⟩)⟩)⟩)⟩)⟩)⟩)⟩)⟩)))) (Rt7_8 q c (all_good h0))
    (.cons _ _ _ _ (.sym _ _ _ _ rfl) (.cons _ _ _ _ (.sym _ _ _ _ rfl) (.cons _ _ _ _ (.bool _) .nil))) w
def Tt8_0 : List SRule := [.bin .add (iv 1) (sv 5) (sv 6), .bin .leq (iv 10) (sv 6) (.bool false)]
def Lt8_0 : List Seg := [q0, q1, q2]
theorem Ct8_0 : chk kR 0 (fun m => Tt8_0.all (ruleP m) && (u0.all (ruleP m) && (u1.all (ruleP m) && (u2.all (ruleP m) && true)))) = true := by kernel_rfl
theorem Rt8_0 (q c : Int) (ok : ∀ r ∈ Tt8_0, r.good (qv q c)) : isTrue (@callFF (SVq q c) (@SymT.mk (SVq q c) Tt8_0 ok) Tryz.prog ⟨506, 508, 376⟩ (primOr (prim1 10 primTrue) (primOr (modPrim 7) (segPrim [15, 19, 26, 25] Lt8_0))) 100000 200 4 [sv 0, sv 1, .bool true] m1) = true := by kernel_rfl
theorem Wt8_0 (q c : Int) (hc : Int.emod c 8 = 7) (hk : kR (mN q) = 0) (w : World) :
    Calls Tryz.prog 4 ⟨[.int .i64 q, .int .i64 c, .bool true]⟩ w fun e w' => e = .returned (.bool true) ∧ Below w.heap.size w w' := by
  have hh := chk_at Ct8_0 hk
  simp only [Bool.and_eq_true] at hh
  obtain ⟨h0, h1, h2, h3, _⟩ := hh
  letI SV : SymV := SVq q c
  letI ST : SymT := ⟨Tt8_0, all_good h0⟩
  exact true_call pok (primOr_ok (prim1_ok awake) (primOr_ok (modPrim_ok q c 7 (modC7 q c hc)) (segPrim_ok (l := Lt8_0) (List.forall_mem_cons.2 ⟨q0good q c h1, (List.forall_mem_cons.2 ⟨q1good q c h2, (List.forall_mem_cons.2 ⟨q2good q c h3, (fun _ h => by cases h)⟩)⟩)⟩)))) (Rt8_0 q c (all_good h0))
    (.cons _ _ _ _ (.sym _ _ _ _ rfl) (.cons _ _ _ _ (.sym _ _ _ _ rfl) (.cons _ _ _ _ (.bool _) .nil))) w
def Tt8_1 : List SRule := [.bin .add (iv 1) (sv 5) (sv 6), .bin .leq (iv 10) (sv 6) (.bool true), .bin .leq (iv 20) (sv 6) (.bool false)]
def Lt8_1 : List Seg := [q0, q3, q4, q5]
theorem Ct8_1 : chk kR 1 (fun m => Tt8_1.all (ruleP m) && (u0.all (ruleP m) && (u3.all (ruleP m) && (u4.all (ruleP m) && (u5.all (ruleP m) && true))))) = true := by kernel_rfl
theorem Rt8_1 (q c : Int) (ok : ∀ r ∈ Tt8_1, r.good (qv q c)) : isTrue (@callFF (SVq q c) (@SymT.mk (SVq q c) Tt8_1 ok) Tryz.prog ⟨506, 508, 376⟩ (primOr (prim1 10 primTrue) (primOr (modPrim 7) (segPrim [15, 19, 26, 25] Lt8_1))) 100000 200 4 [sv 0, sv 1, .bool true] m1) = true := by kernel_rfl
theorem Wt8_1 (q c : Int) (hc : Int.emod c 8 = 7) (hk : kR (mN q) = 1) (w : World) :
    Calls Tryz.prog 4 ⟨[.int .i64 q, .int .i64 c, .bool true]⟩ w fun e w' => e = .returned (.bool true) ∧ Below w.heap.size w w' := by
  have hh := chk_at Ct8_1 hk
  simp only [Bool.and_eq_true] at hh
  obtain ⟨h0, h1, h2, h3, h4, _⟩ := hh
  letI SV : SymV := SVq q c
  letI ST : SymT := ⟨Tt8_1, all_good h0⟩
  exact true_call pok (primOr_ok (prim1_ok awake) (primOr_ok (modPrim_ok q c 7 (modC7 q c hc)) (segPrim_ok (l := Lt8_1) (List.forall_mem_cons.2 ⟨q0good q c h1, (List.forall_mem_cons.2 ⟨q3good q c h2, (List.forall_mem_cons.2 ⟨q4good q c h3, (List.forall_mem_cons.2 ⟨q5good q c h4, (fun _ h => by cases h)⟩)⟩)⟩)⟩)))) (Rt8_1 q c (all_good h0))
    (.cons _ _ _ _ (.sym _ _ _ _ rfl) (.cons _ _ _ _ (.sym _ _ _ _ rfl) (.cons _ _ _ _ (.bool _) .nil))) w
def Tt8_2 : List SRule := [.bin .add (iv 1) (sv 5) (sv 6), .bin .leq (iv 10) (sv 6) (.bool true), .bin .leq (iv 20) (sv 6) (.bool true), .bin .leq (iv 30) (sv 6) (.bool false)]
def Lt8_2 : List Seg := [q0, q3, q6, q7, q8]
theorem Ct8_2 : chk kR 2 (fun m => Tt8_2.all (ruleP m) && (u0.all (ruleP m) && (u3.all (ruleP m) && (u6.all (ruleP m) && (u7.all (ruleP m) && (u8.all (ruleP m) && true)))))) = true := by kernel_rfl
theorem Rt8_2 (q c : Int) (ok : ∀ r ∈ Tt8_2, r.good (qv q c)) : isTrue (@callFF (SVq q c) (@SymT.mk (SVq q c) Tt8_2 ok) Tryz.prog ⟨506, 508, 376⟩ (primOr (prim1 10 primTrue) (primOr (modPrim 7) (segPrim [15, 19, 26, 25] Lt8_2))) 100000 200 4 [sv 0, sv 1, .bool true] m1) = true := by kernel_rfl
theorem Wt8_2 (q c : Int) (hc : Int.emod c 8 = 7) (hk : kR (mN q) = 2) (w : World) :
    Calls Tryz.prog 4 ⟨[.int .i64 q, .int .i64 c, .bool true]⟩ w fun e w' => e = .returned (.bool true) ∧ Below w.heap.size w w' := by
  have hh := chk_at Ct8_2 hk
  simp only [Bool.and_eq_true] at hh
  obtain ⟨h0, h1, h2, h3, h4, h5, _⟩ := hh
  letI SV : SymV := SVq q c
  letI ST : SymT := ⟨Tt8_2, all_good h0⟩
  exact true_call pok (primOr_ok (prim1_ok awake) (primOr_ok (modPrim_ok q c 7 (modC7 q c hc)) (segPrim_ok (l := Lt8_2) (List.forall_mem_cons.2 ⟨q0good q c h1, (List.forall_mem_cons.2 ⟨q3good q c h2, (List.forall_mem_cons.2 ⟨q6good q c h3, (List.forall_mem_cons.2 ⟨q7good q c h4, (List.forall_mem_cons.2 ⟨q8good q c h5, (fun _ h => by cases h)⟩)⟩)⟩)⟩)⟩)))) (Rt8_2 q c (all_good h0))
    (.cons _ _ _ _ (.sym _ _ _ _ rfl) (.cons _ _ _ _ (.sym _ _ _ _ rfl) (.cons _ _ _ _ (.bool _) .nil))) w
def Tt8_3 : List SRule := [.bin .add (iv 1) (sv 5) (sv 6), .bin .leq (iv 10) (sv 6) (.bool true), .bin .leq (iv 20) (sv 6) (.bool true), .bin .leq (iv 30) (sv 6) (.bool true), .bin .leq (iv 40) (sv 6) (.bool false)]
def Lt8_3 : List Seg := [q0, q3, q6, q9, q10, q11]
theorem Ct8_3 : chk kR 3 (fun m => Tt8_3.all (ruleP m) && (u0.all (ruleP m) && (u3.all (ruleP m) && (u6.all (ruleP m) && (u9.all (ruleP m) && (u10.all (ruleP m) && (u11.all (ruleP m) && true))))))) = true := by kernel_rfl
theorem Rt8_3 (q c : Int) (ok : ∀ r ∈ Tt8_3, r.good (qv q c)) : isTrue (@callFF (SVq q c) (@SymT.mk (SVq q c) Tt8_3 ok) Tryz.prog ⟨506, 508, 376⟩ (primOr (prim1 10 primTrue) (primOr (modPrim 7) (segPrim [15, 19, 26, 25] Lt8_3))) 100000 200 4 [sv 0, sv 1, .bool true] m1) = true := by kernel_rfl
theorem Wt8_3 (q c : Int) (hc : Int.emod c 8 = 7) (hk : kR (mN q) = 3) (w : World) :
    Calls Tryz.prog 4 ⟨[.int .i64 q, .int .i64 c, .bool true]⟩ w fun e w' => e = .returned (.bool true) ∧ Below w.heap.size w w' := by
  have hh := chk_at Ct8_3 hk
  simp only [Bool.and_eq_true] at hh
  obtain ⟨h0, h1, h2, h3, h4, h5, h6, _⟩ := hh
  letI SV : SymV := SVq q c
  letI ST : SymT := ⟨Tt8_3, all_good h0⟩
  exact true_call pok (primOr_ok (prim1_ok awake) (primOr_ok (modPrim_ok q c 7 (modC7 q c hc)) (segPrim_ok (l := Lt8_3) (List.forall_mem_cons.2 ⟨q0good q c h1, (List.forall_mem_cons.2 ⟨q3good q c h2, (List.forall_mem_cons.2 ⟨q6good q c h3, (List.forall_mem_cons.2 ⟨q9good q c h4, (List.forall_mem_cons.2 ⟨q10good q c h5, (List.forall_mem_cons.2 ⟨q11good q c h6, (fun _ h => by cases h)⟩)⟩)⟩)⟩)⟩)⟩)))) (Rt8_3 q c (all_good h0))
    (.cons _ _ _ _ (.sym _ _ _ _ rfl) (.cons _ _ _ _ (.sym _ _ _ _ rfl) (.cons _ _ _ _ (.bool _) .nil))) w
def Tt8_4 : List SRule := [.bin .add (iv 1) (sv 5) (sv 6), .bin .leq (iv 10) (sv 6) (.bool true), .bin .leq (iv 20) (sv 6) (.bool true), .bin .leq (iv 30) (sv 6) (.bool true), .bin .leq (iv 40) (sv 6) (.bool true), .bin .leq (iv 50) (sv 6) (.bool false)]
def Lt8_4 : List Seg := [q0, q3, q6, q9, q12, q13, q14]
theorem Ct8_4 : chk kR 4 (fun m => Tt8_4.all (ruleP m) && (u0.all (ruleP m) && (u3.all (ruleP m) && (u6.all (ruleP m) && (u9.all (ruleP m) && (u12.all (ruleP m) && (u13.all (ruleP m) && (u14.all (ruleP m) && true)))))))) = true := by kernel_rfl
theorem Rt8_4 (q c : Int) (ok : ∀ r ∈ Tt8_4, r.good (qv q c)) : isTrue (@callFF (SVq q c) (@SymT.mk (SVq q c) Tt8_4 ok) Tryz.prog ⟨506, 508, 376⟩ (primOr (prim1 10 primTrue) (primOr (modPrim 7) (segPrim [15, 19, 26, 25] Lt8_4))) 100000 200 4 [sv 0, sv 1, .bool true] m1) = true := by kernel_rfl
theorem Wt8_4 (q c : Int) (hc : Int.emod c 8 = 7) (hk : kR (mN q) = 4) (w : World) :
    Calls Tryz.prog 4 ⟨[.int .i64 q, .int .i64 c, .bool true]⟩ w fun e w' => e = .returned (.bool true) ∧ Below w.heap.size w w' := by
  have hh := chk_at Ct8_4 hk
  simp only [Bool.and_eq_true] at hh
  obtain ⟨h0, h1, h2, h3, h4, h5, h6, h7, _⟩ := hh
  letI SV : SymV := SVq q c
  letI ST : SymT := ⟨Tt8_4, all_good h0⟩
  exact true_call pok (primOr_ok (prim1_ok awake) (primOr_ok (modPrim_ok q c 7 (modC7 q c hc)) (segPrim_ok (l := Lt8_4) (List.forall_mem_cons.2 ⟨q0good q c h1, (List.forall_mem_cons.2 ⟨q3good q c h2, (List.forall_mem_cons.2 ⟨q6good q c h3, (List.forall_mem_cons.2 ⟨q9good q c h4, (List.forall_mem_cons.2 ⟨q12good q c h5, (List.forall_mem_cons.2 ⟨q13good q c h6, (List.forall_mem_cons.2 ⟨q14good q c h7, (fun _ h => by cases h)⟩)⟩)⟩)⟩)⟩)⟩)⟩)))) (Rt8_4 q c (all_good h0))
    (.cons _ _ _ _ (.sym _ _ _ _ rfl) (.cons _ _ _ _ (.sym _ _ _ _ rfl) (.cons _ _ _ _ (.bool _) .nil))) w
end QueueRow
end Go.Proofs.YtopofdjgfbimnaaGreat
