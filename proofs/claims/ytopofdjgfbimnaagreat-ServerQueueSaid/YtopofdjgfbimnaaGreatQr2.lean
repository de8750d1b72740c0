/- The law, run: at every number of calls, at every queue of a kind. -/
import Derived.Test.YtopofdjgfbimnaaGreatQs0
import Derived.Test.YtopofdjgfbimnaaGreatQs1
import Derived.Test.YtopofdjgfbimnaaGreatQs2
import Derived.Test.YtopofdjgfbimnaaGreatQs3
namespace Go.Proofs.YtopofdjgfbimnaaGreat
open Go Go.Eng
namespace QueueRow
open Go.RowKit
def Tt8_5 : List SRule := [.bin .add (iv 1) (sv 5) (sv 6), .bin .leq (iv 10) (sv 6) (.bool true), .bin .leq (iv 20) (sv 6) (.bool true), .bin .leq (iv 30) (sv 6) (.bool true), .bin .leq (iv 40) (sv 6) (.bool true), .bin .leq (iv 50) (sv 6) (.bool true), .bin .leq (iv 60) (sv 6) (.bool false)]
def Lt8_5 : List Seg := [q0, q3, q6, q9, q12, q15, q16, q17]
theorem Ct8_5 : chk kR 5 (fun m => Tt8_5.all (ruleP m) && (u0.all (ruleP m) && (u3.all (ruleP m) && (u6.all (ruleP m) && (u9.all (ruleP m) && (u12.all (ruleP m) && (u15.all (ruleP m) && (u16.all (ruleP m) && (u17.all (ruleP m) && true))))))))) = true := by kernel_rfl
theorem Rt8_5 (q c : Int) (ok : ∀ r ∈ Tt8_5, r.good (qv q c)) : isTrue (@callFF (SVq q c) (@SymT.mk (SVq q c) Tt8_5 ok) Tryz.prog ⟨506, 508, 376⟩ (primOr (prim1 10 primTrue) (primOr (modPrim 7) (segPrim [15, 19, 26, 25] Lt8_5))) 100000 200 4 [sv 0, sv 1, .bool true] m1) = true := by kernel_rfl
theorem Wt8_5 (q c : Int) (hc : Int.emod c 8 = 7) (hk : kR (mN q) = 5) (w : World) :
    Calls Tryz.prog 4 ⟨[.int .i64 q, .int .i64 c, .bool true]⟩ w fun e w' => e = .returned (.bool true) ∧ Below w.heap.size w w' := by
  have hh := chk_at Ct8_5 hk
  simp only [Bool.and_eq_true] at hh
  obtain ⟨h0, h1, h2, h3, h4, h5, h6, h7, h8, _⟩ := hh
  letI SV : SymV := SVq q c
  letI ST : SymT := ⟨Tt8_5, all_good h0⟩
  exact true_call pok (primOr_ok (prim1_ok awake) (primOr_ok (modPrim_ok q c 7 (modC7 q c hc)) (segPrim_ok (l := Lt8_5) (List.forall_mem_cons.2 ⟨q0good q c h1, (List.forall_mem_cons.2 ⟨q3good q c h2, (List.forall_mem_cons.2 ⟨q6good q c h3, (List.forall_mem_cons.2 ⟨q9good q c h4, (List.forall_mem_cons.2 ⟨q12good q c h5, (List.forall_mem_cons.2 ⟨q15good q c h6, (List.forall_mem_cons.2 ⟨q16good q c h7, (List.forall_mem_cons.2 ⟨q17good q c h8, (fun _ h => by cases h)⟩)⟩)⟩)⟩)⟩)⟩)⟩)⟩)))) (Rt8_5 q c (all_good h0))
    (.cons _ _ _ _ (.sym _ _ _ _ rfl) (.cons _ _ _ _ (.sym _ _ _ _ rfl) (.cons _ _ _ _ (.bool _) .nil))) w
def Tt8_6 : List SRule := [.bin .add (iv 1) (sv 5) (sv 6), .bin .leq (iv 10) (sv 6) (.bool true), .bin .leq (iv 20) (sv 6) (.bool true), .bin .leq (iv 30) (sv 6) (.bool true), .bin .leq (iv 40) (sv 6) (.bool true), .bin .leq (iv 50) (sv 6) (.bool true), .bin .leq (iv 60) (sv 6) (.bool true), .bin .leq (iv 70) (sv 6) (.bool false)]
def Lt8_6 : List Seg := [q0, q3, q6, q9, q12, q15, q18, q19, q20]
theorem Ct8_6 : chk kR 6 (fun m => Tt8_6.all (ruleP m) && (u0.all (ruleP m) && (u3.all (ruleP m) && (u6.all (ruleP m) && (u9.all (ruleP m) && (u12.all (ruleP m) && (u15.all (ruleP m) && (u18.all (ruleP m) && (u19.all (ruleP m) && (u20.all (ruleP m) && true)))))))))) = true := by kernel_rfl
theorem Rt8_6 (q c : Int) (ok : ∀ r ∈ Tt8_6, r.good (qv q c)) : isTrue (@callFF (SVq q c) (@SymT.mk (SVq q c) Tt8_6 ok) Tryz.prog ⟨506, 508, 376⟩ (primOr (prim1 10 primTrue) (primOr (modPrim 7) (segPrim [15, 19, 26, 25] Lt8_6))) 100000 200 4 [sv 0, sv 1, .bool true] m1) = true := by kernel_rfl
theorem Wt8_6 (q c : Int) (hc : Int.emod c 8 = 7) (hk : kR (mN q) = 6) (w : World) :
    Calls Tryz.prog 4 ⟨[.int .i64 q, .int .i64 c, .bool true]⟩ w fun e w' => e = .returned (.bool true) ∧ Below w.heap.size w w' := by
  have hh := chk_at Ct8_6 hk
  simp only [Bool.and_eq_true] at hh
  obtain ⟨h0, h1, h2, h3, h4, h5, h6, h7, h8, h9, _⟩ := hh
  letI SV : SymV := SVq q c
  letI ST : SymT := ⟨Tt8_6, all_good h0⟩
  exact true_call pok (primOr_ok (prim1_ok awake) (primOr_ok (modPrim_ok q c 7 (modC7 q c hc)) (segPrim_ok (l := Lt8_6) (List.forall_mem_cons.2 ⟨q0good q c h1, (List.forall_mem_cons.2 ⟨q3good q c h2, (List.forall_mem_cons.2 ⟨q6good q c h3, (List.forall_mem_cons.2 ⟨q9good q c h4, (List.forall_mem_cons.2 ⟨q12good q c h5, (List.forall_mem_cons.2 ⟨q15good q c h6, (List.forall_mem_cons.2 ⟨q18good q c h7, (List.forall_mem_cons.2 ⟨q19good q c h8, (List.forall_mem_cons.2 ⟨q20good q c h9, (fun _ h => by cases h)⟩)⟩)⟩)⟩)⟩)⟩)⟩)⟩)⟩)))) (Rt8_6 q c (all_good h0))
    (.cons _ _ _ _ (.sym _ _ _ _ rfl) (.cons _ _ _ _ (.sym _ _ _ _ rfl) (.cons _ _ _ _ (.bool _) .nil))) w
def Tt8_7 : List SRule := [.bin .add (iv 1) (sv 5) (sv 6), .bin .leq (iv 10) (sv 6) (.bool true), .bin .leq (iv 20) (sv 6) (.bool true), .bin .leq (iv 30) (sv 6) (.bool true), .bin .leq (iv 40) (sv 6) (.bool true), .bin .leq (iv 50) (sv 6) (.bool true), .bin .leq (iv 60) (sv 6) (.bool true), .bin .leq (iv 70) (sv 6) (.bool true), .bin .leq (iv 80) (sv 6) (.bool false)]
def Lt8_7 : List Seg := [q0, q3, q6, q9, q12, q15, q18, q21, q22, q23]
theorem Ct8_7 : chk kR 7 (fun m => Tt8_7.all (ruleP m) && (u0.all (ruleP m) && (u3.all (ruleP m) && (u6.all (ruleP m) && (u9.all (ruleP m) && (u12.all (ruleP m) && (u15.all (ruleP m) && (u18.all (ruleP m) && (u21.all (ruleP m) && (u22.all (ruleP m) && (u23.all (ruleP m) && true))))))))))) = true := by kernel_rfl
theorem Rt8_7 (q c : Int) (ok : ∀ r ∈ Tt8_7, r.good (qv q c)) : isTrue (@callFF (SVq q c) (@SymT.mk (SVq q c) Tt8_7 ok) Tryz.prog ⟨506, 508, 376⟩ (primOr (prim1 10 primTrue) (primOr (modPrim 7) (segPrim [15, 19, 26, 25] Lt8_7))) 100000 200 4 [sv 0, sv 1, .bool true] m1) = true := by kernel_rfl
theorem Wt8_7 (q c : Int) (hc : Int.emod c 8 = 7) (hk : kR (mN q) = 7) (w : World) :
    Calls Tryz.prog 4 ⟨[.int .i64 q, .int .i64 c, .bool true]⟩ w fun e w' => e = .returned (.bool true) ∧ Below w.heap.size w w' := by
  have hh := chk_at Ct8_7 hk
  simp only [Bool.and_eq_true] at hh
  obtain ⟨h0, h1, h2, h3, h4, h5, h6, h7, h8, h9, h10, _⟩ := hh
  letI SV : SymV := SVq q c
  letI ST : SymT := ⟨Tt8_7, all_good h0⟩
  exact true_call pok (primOr_ok (prim1_ok awake) (primOr_ok (modPrim_ok q c 7 (modC7 q c hc)) (segPrim_ok (l := Lt8_7) (List.forall_mem_cons.2 ⟨q0good q c h1, (List.forall_mem_cons.2 ⟨q3good q c h2, (List.forall_mem_cons.2 ⟨q6good q c h3, (List.forall_mem_cons.2 ⟨q9good q c h4, (List.forall_mem_cons.2 ⟨q12good q c h5, (List.forall_mem_cons.2 ⟨q15good q c h6, (List.forall_mem_cons.2 ⟨q18good q c h7, (List.forall_mem_cons.2 ⟨q21good q c h8, (List.forall_mem_cons.2 ⟨q22good q c h9, (List.forall_mem_cons.2 ⟨q23good q c h10, (fun _ h => by cases h)⟩)⟩)⟩)⟩)⟩)⟩)⟩)⟩)⟩)⟩)))) (Rt8_7 q c (all_good h0))
    (.cons _ _ _ _ (.sym _ _ _ _ rfl) (.cons _ _ _ _ (.sym _ _ _ _ rfl) (.cons _ _ _ _ (.bool _) .nil))) w
def Tt8_8 : List SRule := [.bin .add (iv 1) (sv 5) (sv 6), .bin .leq (iv 10) (sv 6) (.bool true), .bin .leq (iv 20) (sv 6) (.bool true), .bin .leq (iv 30) (sv 6) (.bool true), .bin .leq (iv 40) (sv 6) (.bool true), .bin .leq (iv 50) (sv 6) (.bool true), .bin .leq (iv 60) (sv 6) (.bool true), .bin .leq (iv 70) (sv 6) (.bool true), .bin .leq (iv 80) (sv 6) (.bool true)]
def Lt8_8 : List Seg := [q0, q3, q6, q9, q12, q15, q18, q21, q24]
theorem Ct8_8 : chk kR 8 (fun m => Tt8_8.all (ruleP m) && (u0.all (ruleP m) && (u3.all (ruleP m) && (u6.all (ruleP m) && (u9.all (ruleP m) && (u12.all (ruleP m) && (u15.all (ruleP m) && (u18.all (ruleP m) && (u21.all (ruleP m) && (u24.all (ruleP m) && true)))))))))) = true := by kernel_rfl
theorem Rt8_8 (q c : Int) (ok : ∀ r ∈ Tt8_8, r.good (qv q c)) : isTrue (@callFF (SVq q c) (@SymT.mk (SVq q c) Tt8_8 ok) Tryz.prog ⟨506, 508, 376⟩ (primOr (prim1 10 primTrue) (primOr (modPrim 7) (segPrim [15, 19, 26, 25] Lt8_8))) 100000 200 4 [sv 0, sv 1, .bool true] m1) = true := by kernel_rfl
theorem Wt8_8 (q c : Int) (hc : Int.emod c 8 = 7) (hk : kR (mN q) = 8) (w : World) :
    Calls Tryz.prog 4 ⟨[.int .i64 q, .int .i64 c, .bool true]⟩ w fun e w' => e = .returned (.bool true) ∧ Below w.heap.size w w' := by
  have hh := chk_at Ct8_8 hk
  simp only [Bool.and_eq_true] at hh
  obtain ⟨h0, h1, h2, h3, h4, h5, h6, h7, h8, h9, _⟩ := hh
  letI SV : SymV := SVq q c
  letI ST : SymT := ⟨Tt8_8, all_good h0⟩
  exact true_call pok (primOr_ok (prim1_ok awake) (primOr_ok (modPrim_ok q c 7 (modC7 q c hc)) (segPrim_ok (l := Lt8_8) (List.forall_mem_cons.2 ⟨q0good q c h1, (List.forall_mem_cons.2 ⟨q3good q c h2, (List.forall_mem_cons.2 ⟨q6good q c h3, (List.forall_mem_cons.2 ⟨q9good q c h4, (List.forall_mem_cons.2 ⟨q12good q c h5, (List.forall_mem_cons.2 ⟨q15good q c h6, (List.forall_mem_cons.2 ⟨q18good q c h7, (List.forall_mem_cons.2 ⟨q21good q c h8, (List.forall_mem_cons.2 ⟨q24good q c h9, (fun _ h => by cases h)⟩)⟩)⟩)⟩)⟩)⟩)⟩)⟩)⟩)))) (Rt8_8 q c (all_good h0))
    (.cons _ _ _ _ (.sym _ _ _ _ rfl) (.cons _ _ _ _ (.sym _ _ _ _ rfl) (.cons _ _ _ _ (.bool _) .nil))) w
def Tf1_0 : List SRule := [.bin .add (iv 1) (sv 5) (sv 6), .bin .quo (sv 6) (iv 14) (iv 0)]
def Lf1_0 : List Seg := [q0, q25, q26, q27]
theorem Cf1_0 : chk kN 0 (fun m => Tf1_0.all (ruleP m) && (u0.all (ruleP m) && (u25.all (ruleP m) && (u26.all (ruleP m) && (u27.all (ruleP m) && true))))) = true := by kernel_rfl
theorem Rf1_0 (q c : Int) (ok : ∀ r ∈ Tf1_0, r.good (qv q c)) : isTrue (@callFF (SVq q c) (@SymT.mk (SVq q c) Tf1_0 ok) Tryz.prog ⟨506, 508, 376⟩ (primOr (prim1 10 primTrue) (primOr (modPrim 0) (segPrim [15, 19, 26, 25] Lf1_0))) 100000 200 4 [sv 0, sv 1, .bool false] m1) = true := by kernel_rfl
theorem Wf1_0 (q c : Int) (hc : Int.emod c 8 = 0) (hk : kN (mN q) = 0) (w : World) :
    Calls Tryz.prog 4 ⟨[.int .i64 q, .int .i64 c, .bool false]⟩ w fun e w' => e = .returned (.bool true) ∧ Below w.heap.size w w' := by
  have hh := chk_at Cf1_0 hk
  simp only [Bool.and_eq_true] at hh
  obtain ⟨h0, h1, h2, h3, h4, _⟩ := hh
  letI SV : SymV := SVq q c
  letI ST : SymT := ⟨Tf1_0, all_good h0⟩
  exact true_call pok (primOr_ok (prim1_ok awake) (primOr_ok (modPrim_ok q c 0 (modC0 q c hc)) (segPrim_ok (l := Lf1_0) (List.forall_mem_cons.2 ⟨q0good q c h1, (List.forall_mem_cons.2 ⟨q25good q c h2, (List.forall_mem_cons.2 ⟨q26good q c h3, (List.forall_mem_cons.2 ⟨q27good q c h4, (fun _ h => by cases h)⟩)⟩)⟩)⟩)))) (Rf1_0 q c (all_good h0))
    (.cons _ _ _ _ (.sym _ _ _ _ rfl) (.cons _ _ _ _ (.sym _ _ _ _ rfl) (.cons _ _ _ _ (.bool _) .nil))) w
def Tf1_1 : List SRule := [.bin .add (iv 1) (sv 5) (sv 6), .bin .quo (sv 6) (iv 14) (iv 1)]
def Lf1_1 : List Seg := [q0, q25, q28]
theorem Cf1_1 : chk kN 1 (fun m => Tf1_1.all (ruleP m) && (u0.all (ruleP m) && (u25.all (ruleP m) && (u28.all (ruleP m) && true)))) = true := by kernel_rfl
theorem Rf1_1 (q c : Int) (ok : ∀ r ∈ Tf1_1, r.good (qv q c)) : isTrue (@callFF (SVq q c) (@SymT.mk (SVq q c) Tf1_1 ok) Tryz.prog ⟨506, 508, 376⟩ (primOr (prim1 10 primTrue) (primOr (modPrim 0) (segPrim [15, 19, 26, 25] Lf1_1))) 100000 200 4 [sv 0, sv 1, .bool false] m1) = true := by kernel_rfl
theorem Wf1_1 (q c : Int) (hc : Int.emod c 8 = 0) (hk : kN (mN q) = 1) (w : World) :
    Calls Tryz.prog 4 ⟨[.int .i64 q, .int .i64 c, .bool false]⟩ w fun e w' => e = .returned (.bool true) ∧ Below w.heap.size w w' := by
  have hh := chk_at Cf1_1 hk
  simp only [Bool.and_eq_true] at hh
  obtain ⟨h0, h1, h2, h3, _⟩ := hh
  letI SV : SymV := SVq q c
  letI ST : SymT := ⟨Tf1_1, all_good h0⟩
  exact true_call pok (primOr_ok (prim1_ok awake) (primOr_ok (modPrim_ok q c 0 (modC0 q c hc)) (segPrim_ok (l := Lf1_1) (List.forall_mem_cons.2 ⟨q0good q c h1, (List.forall_mem_cons.2 ⟨q25good q c h2, (List.forall_mem_cons.2 ⟨q28good q c h3, (fun _ h => by cases h)⟩)⟩)⟩)))) (Rf1_1 q c (all_good h0))
    (.cons _ _ _ _ (.sym _ _ _ _ rfl) (.cons _ _ _ _ (.sym _ _ _ _ rfl) (.cons _ _ _ _ (.bool _) .nil))) w
def Tf1_2 : List SRule := [.bin .add (iv 1) (sv 5) (sv 6), .bin .quo (sv 6) (iv 14) (iv 2)]
def Lf1_2 : List Seg := [q0, q25, q28]
theorem Cf1_2 : chk kN 2 (fun m => Tf1_2.all (ruleP m) && (u0.all (ruleP m) && (u25.all (ruleP m) && (u28.all (ruleP m) && true)))) = true := by kernel_rfl
theorem Rf1_2 (q c : Int) (ok : ∀ r ∈ Tf1_2, r.good (qv q c)) : isTrue (@callFF (SVq q c) (@SymT.mk (SVq q c) Tf1_2 ok) Tryz.prog ⟨506, 508, 376⟩ (primOr (prim1 10 primTrue) (primOr (modPrim 0) (segPrim [15, 19, 26, 25] Lf1_2))) 100000 200 4 [sv 0, sv 1, .bool false] m1) = true := by kernel_rfl
theorem Wf1_2 (q c : Int) (hc : Int.emod c 8 = 0) (hk : kN (mN q) = 2) (w : World) :
    Calls Tryz.prog 4 ⟨[.int .i64 q, .int .i64 c, .bool false]⟩ w fun e w' => e = .returned (.bool true) ∧ Below w.heap.size w w' := by
  have hh := chk_at Cf1_2 hk
  simp only [Bool.and_eq_true] at hh
  obtain ⟨h0, h1, h2, h3, _⟩ := hh
  letI SV : SymV := SVq q c
  letI ST : SymT := ⟨Tf1_2, all_good h0⟩
  exact true_call pok (primOr_ok (prim1_ok awake) (primOr_ok (modPrim_ok q c 0 (modC0 q c hc)) (segPrim_ok (l := Lf1_2) (List.forall_mem_cons.2 ⟨q0good q c h1, (List.forall_mem_cons.2 ⟨q25good q c h2, (List.forall_mem_cons.2 ⟨q28good q c h3, (fun _ h => by cases h)⟩)⟩)⟩)))) (Rf1_2 q c (all_good h0))
    (.cons _ _ _ _ (.sym _ _ _ _ rfl) (.cons _ _ _ _ (.sym _ _ _ _ rfl) (.cons _ _ _ _ (.bool _) .nil))) w
def Tf1_3 : List SRule := [.bin .add (iv 1) (sv 5) (sv 6), .bin .quo (sv 6) (iv 14) (iv 3)]
def Lf1_3 : List Seg := [q0, q25, q28]
theorem Cf1_3 : chk kN 3 (fun m => Tf1_3.all (ruleP m) && (u0.all (ruleP m) && (u25.all (ruleP m) && (u28.all (ruleP m) && true)))) = true := by kernel_rfl
theorem Rf1_3 (q c : Int) (ok : ∀ r ∈ Tf1_3, r.good (qv q c)) : isTrue (@callFF (SVq q c) (@SymT.mk (SVq q c) Tf1_3 ok) Tryz.prog ⟨506, 508, 376⟩ (primOr (prim1 10 primTrue) (primOr (modPrim 0) (segPrim [15, 19, 26, 25] Lf1_3))) 100000 200 4 [sv 0, sv 1, .bool false] m1) = true := by kernel_rfl
theorem Wf1_3 (q c : Int) (hc : Int.emod c 8 = 0) (hk : kN (mN q) = 3) (w : World) :
    Calls Tryz.prog 4 ⟨[.int .i64 q, .int .i64 c, .bool false]⟩ w fun e w' => e = .returned (.bool true) ∧ Below w.heap.size w w' := by
  have hh := chk_at Cf1_3 hk
  simp only [Bool.and_eq_true] at hh
  obtain ⟨h0, h1, h2, h3, _⟩ := hh
  letI SV : SymV := SVq q c
  letI ST : SymT := ⟨Tf1_3, all_good h0⟩
  exact true_call pok (primOr_ok (prim1_ok awake) (primOr_ok (modPrim_ok q c 0 (modC0 q c hc)) (segPrim_ok (l := Lf1_3) (List.forall_mem_cons.2 ⟨q0good q c h1, (List.forall_mem_cons.2 ⟨q25good q c h2, (List.forall_mem_cons.2 ⟨q28good q c h3, (fun _ h => by cases h)⟩)⟩)⟩)))) (Rf1_3 q c (all_good h0))
    (.cons _ _ _ _ (.sym _ _ _ _ rfl) (.cons _ _ _ _ (.sym _ _ _ _ rfl) (.cons _ _ _ _ (.bool _) .nil))) w
def Tf1_4 : List SRule := [.bin .add (iv 1) (sv 5) (sv 6), .bin .quo (sv 6) (iv 14) (iv 4)]
def Lf1_4 : List Seg := [q0, q25, q28]
theorem Cf1_4 : chk kN 4 (fun m => Tf1_4.all (ruleP m) && (u0.all (ruleP m) && (u25.all (ruleP m) && (u28.all (ruleP m) && true)))) = true := by kernel_rfl
theorem Rf1_4 (q c : Int) (ok : ∀ r ∈ Tf1_4, r.good (qv q c)) : isTrue (@callFF (SVq q c) (@SymT.mk (SVq q c) Tf1_4 ok) Tryz.prog ⟨506, 508, 376⟩ (primOr (prim1 10 primTrue) (primOr (modPrim 0) (segPrim [15, 19, 26, 25] Lf1_4))) 100000 200 4 [sv 0, sv 1, .bool false] m1) = true := by kernel_rfl
theorem Wf1_4 (q c : Int) (hc : Int.emod c 8 = 0) (hk : kN (mN q) = 4) (w : World) :
    Calls Tryz.prog 4 ⟨[.int .i64 q, .int .i64 c, .bool false]⟩ w fun e w' => e = .returned (.bool true) ∧ Below w.heap.size w w' := by
  have hh := chk_at Cf1_4 hk
  simp only [Bool.and_eq_true] at hh
  obtain ⟨h0, h1, h2, h3, _⟩ := hh
  letI SV : SymV := SVq q c
  letI ST : SymT := ⟨Tf1_4, all_good h0⟩
  exact true_call pok (primOr_ok (prim1_ok awake) (primOr_ok (modPrim_ok q c 0 (modC0 q c hc)) (segPrim_ok (l := Lf1_4) (List.forall_mem_cons.2 ⟨q0good q c h1, (List.forall_mem_cons.2 ⟨q25good q c h2, (List.forall_mem_cons.2 ⟨q28good q c h3, (fun _ h => by cases h)⟩)⟩)⟩)))) (Rf1_4 q c (all_good h0))
    (.cons _ _ _ _ (.sym _ _ _ _ rfl) (.cons _ _ _ _ (.sym _ _ _ _ rfl) (.cons _ _ _ _ (.bool _) .nil))) w
def Tf1_5 : List SRule := [.bin .add (iv 1) (sv 5) (sv 6), .bin .quo (sv 6) (iv 14) (iv 5)]
def Lf1_5 : List Seg := [q0, q25, q28]
theorem Cf1_5 : chk kN 5 (fun m => Tf1_5.all (ruleP m) && (u0.all (ruleP m) && (u25.all (ruleP m) && (u28.all (ruleP m) && true)))) = true := by kernel_rfl
theorem Rf1_5 (q c : Int) (ok : ∀ r ∈ Tf1_5, r.good (qv q c)) : isTrue (@callFF (SVq q c) (@SymT.mk (SVq q c) Tf1_5 ok) Tryz.prog ⟨506, 508, 376⟩ (primOr (prim1 10 primTrue) (primOr (modPrim 0) (segPrim [15, 19, 26, 25] Lf1_5))) 100000 200 4 [sv 0, sv 1, .bool false] m1) = true := by kernel_rfl
theorem Wf1_5 (q c : Int) (hc : Int.emod c 8 = 0) (hk : kN (mN q) = 5) (w : World) :
    Calls Tryz.prog 4 ⟨[.int .i64 q, .int .i64 c, .bool false]⟩ w fun e w' => e = .returned (.bool true) ∧ Below w.heap.size w w' := by
  have hh := chk_at Cf1_5 hk
  simp only [Bool.and_eq_true] at hh
  obtain ⟨h0, h1, h2, h3, _⟩ := hh
  letI SV : SymV := SVq q c
  letI ST : SymT := ⟨Tf1_5, all_good h0⟩
  exact true_call pok (primOr_ok (prim1_ok awake) (primOr_ok (modPrim_ok q c 0 (modC0 q c hc)) (segPrim_ok (l := Lf1_5) (List.forall_mem_cons.2 ⟨q0good q c h1, (List.forall_mem_cons.2 ⟨q25good q c h2, (List.forall_mem_cons.2 ⟨q28good q c h3, (fun _ h => by cases h)⟩)⟩)⟩)))) (Rf1_5 q c (all_good h0))
    (.cons _ _ _ _ (.sym _ _ _ _ rfl) (.cons _ _ _ _ (.sym _ _ _ _ rfl) (.cons _ _ _ _ (.bool _) .nil))) w
def Tf1_6 : List SRule := [.bin .add (iv 1) (sv 5) (sv 6), .bin .quo (sv 6) (iv 14) (iv 6)]
def Lf1_6 : List Seg := [q0, q25, q28]
theorem Cf1_6 : chk kN 6 (fun m => Tf1_6.all (ruleP m) && (u0.all (ruleP m) && (u25.all (ruleP m) && (u28.all (ruleP m) && true)))) = true := by kernel_rfl
theorem Rf1_6 (q c : Int) (ok : ∀ r ∈ Tf1_6, r.good (qv q c)) : isTrue (@callFF (SVq q c) (@SymT.mk (SVq q c) Tf1_6 ok) Tryz.prog ⟨506, 508, 376⟩ (primOr (prim1 10 primTrue) (primOr (modPrim 0) (segPrim [15, 19, 26, 25] Lf1_6))) 100000 200 4 [sv 0, sv 1, .bool false] m1) = true := by kernel_rfl
theorem Wf1_6 (q c : Int) (hc : Int.emod c 8 = 0) (hk : kN (mN q) = 6) (w : World) :
    Calls Tryz.prog 4 ⟨[.int .i64 q, .int .i64 c, .bool false]⟩ w fun e w' => e = .returned (.bool true) ∧ Below w.heap.size w w' := by
  have hh := chk_at Cf1_6 hk
  simp only [Bool.and_eq_true] at hh
  obtain ⟨h0, h1, h2, h3, _⟩ := hh
  letI SV : SymV := SVq q c
  letI ST : SymT := ⟨Tf1_6, all_good h0⟩
  exact true_call pok (primOr_ok (prim1_ok awake) (primOr_ok (modPrim_ok q c 0 (modC0 q c hc)) (segPrim_ok (l := Lf1_6) (List.forall_mem_cons.2 ⟨q0good q c h1, (List.forall_mem_cons.2 ⟨q25good q c h2, (List.forall_mem_cons.2 ⟨q28good q c h3, (fun _ h => by cases h)⟩)⟩)⟩)))) (Rf1_6 q c (all_good h0))
    (.cons _ _ _ _ (.sym _ _ _ _ rfl) (.cons _ _ _ _ (.sym _ _ _ _ rfl) (.cons _ _ _ _ (.bool _) .nil))) w
def Tf1_7 : List SRule := [.bin .add (iv 1) (sv 5) (sv 6), .bin .quo (sv 6) (iv 14) (iv 7)]
def Lf1_7 : List Seg := [q0, q25, q28]
theorem Cf1_7 : chk kN 7 (fun m => Tf1_7.all (ruleP m) && (u0.all (ruleP m) && (u25.all (ruleP m) && (u28.all (ruleP m) && true)))) = true := by kernel_rfl
theorem Rf1_7 (q c : Int) (ok : ∀ r ∈ Tf1_7, r.good (qv q c)) : isTrue (@callFF (SVq q c) (@SymT.mk (SVq q c) Tf1_7 ok) Tryz.prog ⟨506, 508, 376⟩ (primOr (prim1 10 primTrue) (primOr (modPrim 0) (segPrim [15, 19, 26, 25] Lf1_7))) 100000 200 4 [sv 0, sv 1, .bool false] m1) = true := by kernel_rfl
theorem Wf1_7 (q c : Int) (hc : Int.emod c 8 = 0) (hk : kN (mN q) = 7) (w : World) :
    Calls Tryz.prog 4 ⟨[.int .i64 q, .int .i64 c, .bool false]⟩ w fun e w' => e = .returned (.bool true) ∧ Below w.heap.size w w' := by
  have hh := chk_at Cf1_7 hk
  simp only [Bool.and_eq_true] at hh
  obtain ⟨h0, h1, h2, h3, _⟩ := hh
  letI SV : SymV := SVq q c
  letI ST : SymT := ⟨Tf1_7, all_good h0⟩
  exact true_call pok (primOr_ok (prim1_ok awake) (primOr_ok (modPrim_ok q c 0 (modC0 q c hc)) (segPrim_ok (l := Lf1_7) (List.forall_mem_cons.2 ⟨q0good q c h1, (List.forall_mem_cons.2 ⟨q25good q c h2, (List.forall_mem_cons.2 ⟨q28good q c h3, (fun _ h => by cases h)⟩)⟩)⟩)))) (Rf1_7 q c (all_good h0))
    (.cons _ _ _ _ (.sym _ _ _ _ rfl) (.cons _ _ _ _ (.sym _ _ _ _ rfl) (.cons _ _ _ _ (.bool _) .nil))) w
def Tf2_0 : List SRule := [.bin .add (iv 1) (sv 5) (sv 6), .bin .quo (sv 6) (iv 14) (iv 0)]
def Lf2_0 : List Seg := [q0, q25, q29, q30, q31]
theorem Cf2_0 : chk kN 0 (fun m => Tf2_0.all (ruleP m) && (u0.all (ruleP m) && (u25.all (ruleP m) && (u29.all (ruleP m) && (u30.all (ruleP m) && (u31.all (ruleP m) && true)))))) = true := by kernel_rfl
theorem Rf2_0 (q c : Int) (ok : ∀ r ∈ Tf2_0, r.good (qv q c)) : isTrue (@callFF (SVq q c) (@SymT.mk (SVq q c) Tf2_0 ok) Tryz.prog ⟨506, 508, 376⟩ (primOr (prim1 10 primTrue) (primOr (modPrim 1) (segPrim [15, 19, 26, 25] Lf2_0))) 100000 200 4 [sv 0, sv 1, .bool false] m1) = true := by kernel_rfl
theorem Wf2_0 (q c : Int) (hc : Int.emod c 8 = 1) (hk : kN (mN q) = 0) (w : World) :
    Calls Tryz.prog 4 ⟨[.int .i64 q, .int .i64 c, .bool false]⟩ w fun e w' => e = .returned (.bool true) ∧ Below w.heap.size w w' := by
  have hh := chk_at Cf2_0 hk
  simp only [Bool.and_eq_true] at hh
  obtain ⟨h0, h1, h2, h3, h4, h5, _⟩ := hh
  letI SV : SymV := SVq q c
  letI ST : SymT := ⟨Tf2_0, all_good h0⟩
  exact true_call pok (primOr_ok (prim1_ok awake) (primOr_ok (modPrim_ok q c 1 (modC1 q c hc)) (segPrim_ok (l := Lf2_0) (List.forall_mem_cons.2 ⟨q0good q c h1, (List.forall_mem_cons.2 ⟨q25good q c h2, (List.forall_mem_cons.2 ⟨q29good q c h3, (List.forall_mem_cons.2 ⟨q30good q c h4, (List.forall_mem_cons.2 ⟨q31good q c h5, (fun _ h => by cases h)⟩)⟩)⟩)⟩)⟩)))) (Rf2_0 q c (all_good h0))
    (.cons _ _ _ _ (.sym _ _ _ _ rfl) (.cons _ _ _ _ (.sym _ _ _ _ rfl) (.cons _ _ _ _ (.bool _) .nil))) w
def Tf2_1 : List SRule := [.bin .add (iv 1) (sv 5) (sv 6), .bin .quo (sv 6) (iv 14) (iv 1)]
def Lf2_1 : List Seg := [q0, q25, q29, q32, q33]
theorem Cf2_1 : chk kN 1 (fun m => Tf2_1.all (ruleP m) && (u0.all (ruleP m) && (u25.all (ruleP m) && (u29.all (ruleP m) && (u32.all (ruleP m) && (u33.all (ruleP m) && true)))))) = true := by kernel_rfl
theorem Rf2_1 (q c : Int) (ok : ∀ r ∈ Tf2_1, r.good (qv q c)) : isTrue (@callFF (SVq q c) (@SymT.mk (SVq q c) Tf2_1 ok) Tryz.prog ⟨506, 508, 376⟩ (primOr (prim1 10 primTrue) (primOr (modPrim 1) (segPrim [15, 19, 26, 25] Lf2_1))) 100000 200 4 [sv 0, sv 1, .bool false] m1) = true := by kernel_rfl
theorem Wf2_1 (q c : Int) (hc : Int.emod c 8 = 1) (hk : kN (mN q) = 1) (w : World) :
    Calls Tryz.prog 4 ⟨[.int .i64 q, .int .i64 c, .bool false]⟩ w fun e w' => e = .returned (.bool true) ∧ Below w.heap.size w w' := by
  have hh := chk_at Cf2_1 hk
  simp only [Bool.and_eq_true] at hh
  obtain ⟨h0, h1, h2, h3, h4, h5, _⟩ := hh
  letI SV : SymV := SVq q c
  letI ST : SymT := ⟨Tf2_1, all_good h0⟩
  exact true_call pok (primOr_ok (prim1_ok awake) (primOr_ok (modPrim_ok q c 1 (modC1 q c hc)) (segPrim_ok (l := Lf2_1) (List.forall_mem_cons.2 ⟨q0good q c h1, (List.forall_mem_cons.2 ⟨q25good q c h2, (List.forall_mem_cons.2 ⟨q29good q c h3, (List.forall_mem_cons.2 ⟨q32good q c h4, (List.forall_mem_cons.2 ⟨q33good q c h5, (fun _ h => by cases h)⟩)⟩)⟩)⟩)⟩)))) (Rf2_1 q c (all_good h0))
    (.cons _ _ _ _ (.sym _ _ _ _ rfl) (.cons _ _ _ _ (.sym _ _ _ _ rfl) (.cons _ _ _ _ (.bool _) .nil))) w
def Tf2_2 : List SRule := [.bin .add (iv 1) (sv 5) (sv 6), .bin .quo (sv 6) (iv 14) (iv 2)]
def Lf2_2 : List Seg := [q0, q25, q29, q34]
theorem Cf2_2 : chk kN 2 (fun m => Tf2_2.all (ruleP m) && (u0.all (ruleP m) && (u25.all (ruleP m) && (u29.all (ruleP m) && (u34.all (ruleP m) && true))))) = true := by kernel_rfl
theorem Rf2_2 (q c : Int) (ok : ∀ r ∈ Tf2_2, r.good (qv q c)) : isTrue (@callFF (SVq q c) (@SymT.mk (SVq q c) Tf2_2 ok) Tryz.prog ⟨506, 508, 376⟩ (primOr (prim1 10 primTrue) (primOr (modPrim 1) (segPrim [15, 19, 26, 25] Lf2_2))) 100000 200 4 [sv 0, sv 1, .bool false] m1) = true := by kernel_rfl
theorem Wf2_2 (q c : Int) (hc : Int.emod c 8 = 1) (hk : kN (mN q) = 2) (w : World) :
    Calls Tryz.prog 4 ⟨[.int .i64 q, .int .i64 c, .bool false]⟩ w fun e w' => e = .returned (.bool true) ∧ Below w.heap.size w w' := by
  have hh := chk_at Cf2_2 hk
  simp only [Bool.and_eq_true] at hh
  obtain ⟨h0, h1, h2, h3, h4, _⟩ := hh
  letI SV : SymV := SVq q c
  letI ST : SymT := ⟨Tf2_2, all_good h0⟩
  exact true_call pok (primOr_ok (prim1_ok awake) (primOr_ok (modPrim_ok q c 1 (modC1 q c hc)) (segPrim_ok (l := Lf2_2) (List.forall_mem_cons.2 ⟨q0good q c h1, (List.forall_mem_cons.2 ⟨q25good q c h2, (List.forall_mem_cons.2 ⟨q29good q c h3, (List.forall_mem_cons.2 ⟨q34good q c h4, (fun _ h => by cases h)⟩)⟩)⟩)⟩)))) (Rf2_2 q c (all_good h0))
    (.cons _ _ _ _ (.sym _ _ _ _ rfl) (.cons _ _ _ _ (.sym _ _ _ _ rfl) (.cons _ _ _ _ (.bool _) .nil))) w
def Tf2_3 : List SRule := [.bin .add (iv 1) (sv 5) (sv 6), .bin .quo (sv 6) (iv 14) (iv 3)]
def Lf2_3 : List Seg := [q0, q25, q29, q34]
theorem Cf2_3 : chk kN 3 (fun m => Tf2_3.all (ruleP m) && (u0.all (ruleP m) && (u25.all (ruleP m) && (u29.all (ruleP m) && (u34.all (ruleP m) && true))))) = true := by kernel_rfl
theorem Rf2_3 (q c : Int) (ok : ∀ r ∈ Tf2_3, r.good (qv q c)) : isTrue (@callFF (SVq q c) (@SymT.mk (SVq q c) Tf2_3 ok) Tryz.prog ⟨506, 508, 376⟩ (primOr (prim1 10 primTrue) (primOr (modPrim 1) (segPrim [15, 19, 26, 25] Lf2_3))) 100000 200 4 [sv 0, sv 1, .bool false] m1) = true := by kernel_rfl
theorem Wf2_3 (q c : Int) (hc : Int.emod c 8 = 1) (hk : kN (mN q) = 3) (w : World) :
    Calls Tryz.prog 4 ⟨[.int .i64 q, .int .i64 c, .bool false]⟩ w fun e w' => e = .returned (.bool true) ∧ Below w.heap.size w w' := by
  have hh := chk_at Cf2_3 hk
  simp only [Bool.and_eq_true] at hh
  obtain ⟨h0, h1, h2, h3, h4, _⟩ := hh
  letI SV : SymV := SVq q c
  letI ST : SymT := ⟨Tf2_3, all_good h0⟩
  exact true_call pok (primOr_ok (prim1_ok awake) (primOr_ok (modPrim_ok q c 1 (modC1 q c hc)) (segPrim_ok (l := Lf2_3) (List.forall_mem_cons.2 ⟨q0good q c h1, (List.forall_mem_cons.2 ⟨q25good q c h2, (List.forall_mem_cons.2 ⟨q29good q c h3, (List.forall_mem_cons.2 ⟨q34good q c h4, (fun _ h => by cases h)⟩)⟩)⟩)⟩)))) (Rf2_3 q c (all_good h0))
    (.cons _ _ _ _ (.sym _ _ _ _ rfl) (.cons _ _ _ _ (.sym _ _ _ _ rfl) (.cons _ _ _ _ (.bool _) .nil))) w
def Tf2_4 : List SRule := [.bin .add (iv 1) (sv 5) (sv 6), .bin .quo (sv 6) (iv 14) (iv 4)]
def Lf2_4 : List Seg := [q0, q25, q29, q34]
theorem Cf2_4 : chk kN 4 (fun m => Tf2_4.all (ruleP m) && (u0.all (ruleP m) && (u25.all (ruleP m) && (u29.all (ruleP m) && (u34.all (ruleP m) && true))))) = true := by kernel_rfl
theorem Rf2_4 (q c : Int) (ok : ∀ r ∈ Tf2_4, r.good (qv q c)) : isTrue (@callFF (SVq q c) (@SymT.mk (SVq q c) Tf2_4 ok) Tryz.prog ⟨506, 508, 376⟩ (primOr (prim1 10 primTrue) (primOr (modPrim 1) (segPrim [15, 19, 26, 25] Lf2_4))) 100000 200 4 [sv 0, sv 1, .bool false] m1) = true := by kernel_rfl
theorem Wf2_4 (q c : Int) (hc : Int.emod c 8 = 1) (hk : kN (mN q) = 4) (w : World) :
    Calls Tryz.prog 4 ⟨[.int .i64 q, .int .i64 c, .bool false]⟩ w fun e w' => e = .returned (.bool true) ∧ Below w.heap.size w w' := by
  have hh := chk_at Cf2_4 hk
  simp only [Bool.and_eq_true] at hh
  obtain ⟨h0, h1, h2, h3, h4, _⟩ := hh
  letI SV : SymV := SVq q c
  letI ST : SymT := ⟨Tf2_4, all_good h0⟩
  exact true_call pok (primOr_ok (prim1_ok awake) (primOr_ok (modPrim_ok q c 1 (modC1 q c hc)) (segPrim_ok (l := Lf2_4) (List.forall_mem_cons.2 ⟨q0good q c h1, (List.forall_mem_cons.2 ⟨q25good q c h2, (List.forall_mem_cons.2 ⟨q29good q c h3, (List.forall_mem_cons.2 ⟨q34good q c h4, (fun _ h => by cases h)⟩)⟩)⟩)⟩)))) (Rf2_4 q c (all_good h0))
    (.cons _ _ _ _ (.sym _ _ _ _ rfl) (.cons _ _ _ _ (.sym _ _ _ _ rfl) (.cons _ _ _ _ (.bool _) .nil))) w
def Tf2_5 : List SRule := [.bin .add (iv 1) (sv 5) (sv 6), .bin .quo (sv 6) (iv 14) (iv 5)]
def Lf2_5 : List Seg := [q0, q25, q29, q34]
theorem Cf2_5 : chk kN 5 (fun m => Tf2_5.all (ruleP m) && (u0.all (ruleP m) && (u25.all (ruleP m) && (u29.all (ruleP m) && (u34.all (ruleP m) && true))))) = true := by kernel_rfl
theorem Rf2_5 (q c : Int) (ok : ∀ r ∈ Tf2_5, r.good (qv q c)) : isTrue (@callFF (SVq q c) (@SymT.mk (SVq q c) Tf2_5 ok) Tryz.prog ⟨506, 508, 376⟩ (primOr (prim1 10 primTrue) (primOr (modPrim 1) (segPrim [15, 19, 26, 25] Lf2_5))) 100000 200 4 [sv 0, sv 1, .bool false] m1) = true := by kernel_rfl
theorem Wf2_5 (q c : Int) (hc : Int.emod c 8 = 1) (hk : kN (mN q) = 5) (w : World) :
    Calls Tryz.prog 4 ⟨[.int .i64 q, .int .i64 c, .bool false]⟩ w fun e w' => e = .returned (.bool true) ∧ Below w.heap.size w w' := by
  have hh := chk_at Cf2_5 hk
  simp only [Bool.and_eq_true] at hh
  obtain ⟨h0, h1, h2, h3, h4, _⟩ := hh
  letI SV : SymV := SVq q c
  letI ST : SymT := ⟨Tf2_5, all_good h0⟩
  exact true_call pok (primOr_ok (prim1_ok awake) (primOr_ok (modPrim_ok q c 1 (modC1 q c hc)) (segPrim_ok (l := Lf2_5) (List.forall_mem_cons.2 ⟨q0good q c h1, (List.forall_mem_cons.2 ⟨q25good q c h2, (List.forall_mem_cons.2 ⟨q29good q c h3, (List.forall_mem_cons.2 ⟨q34good q c h4, (fun _ h => by cases h)⟩)⟩)⟩)⟩)))) (Rf2_5 q c (all_good h0))
    (.cons _ _ _ _ (.sym _ _ _ _ rfl) (.cons _ _ _ _ (.sym _ _ _ _ rfl) (.cons _ _ _ _ (.bool _) .nil))) w
def Tf2_6 : List SRule := [.bin .add (iv 1) (sv 5) (sv 6), .bin .quo (sv 6) (iv 14) (iv 6)]
def Lf2_6 : List Seg := [q0, q25, q29, q34]
theorem Cf2_6 : chk kN 6 (fun m => Tf2_6.all (ruleP m) && (u0.all (ruleP m) && (u25.all (ruleP m) && (u29.all (ruleP m) && (u34.all (ruleP m) && true))))) = true := by kernel_rfl
theorem Rf2_6 (q c : Int) (ok : ∀ r ∈ Tf2_6, r.good (qv q c)) : isTrue (@callFF (SVq q c) (@SymT.mk (SVq q c) Tf2_6 ok) Tryz.prog ⟨506, 508, 376⟩ (primOr (prim1 10 primTrue) (primOr (modPrim 1) (segPrim [15, 19, 26, 25] Lf2_6))) 100000 200 4 [sv 0, sv 1, .bool false] m1) = true := by kernel_rfl
theorem Wf2_6 (q c : Int) (hc : Int.emod c 8 = 1) (hk : kN (mN q) = 6) (w : World) :
    Calls Tryz.prog 4 ⟨[.int .i64 q, .int .i64 c, .bool false]⟩ w fun e w' => e = .returned (.bool true) ∧ Below w.heap.size w w' := by
  have hh := chk_at Cf2_6 hk
  simp only [Bool.and_eq_true] at hh
  obtain ⟨h0, h1, h2, h3, h4, _⟩ := hh
  letI SV : SymV := SVq q c
  letI ST : SymT := ⟨Tf2_6, all_good h0⟩
  exact true_call pok (primOr_ok (prim1_ok awake) (primOr_ok (modPrim_ok q c 1 (modC1 q c hc)) (segPrim_ok (l := Lf2_6) (List.forall_mem_cons.2 ⟨q0good q c h1, (List.forall_mem_cons.2 ⟨q25good q c h2, (List.forall_mem_cons.2 ⟨q29good q c h3, (List.forall_mem_cons.2 ⟨q34good q c h4, (fun _ h => by cases h)⟩)⟩)⟩)⟩)))) (Rf2_6 q c (all_good h0))
    (.cons _ _ _ _ (.sym _ _ _ _ rfl) (.cons _ _ _ _ (.sym _ _ _ _ rfl) (.cons _ _ _ _ (.bool _) .nil))) w
def Tf2_7 : List SRule := [.bin .add (iv 1) (sv 5) (sv 6), .bin .quo (sv 6) (iv 14) (iv 7)]
def Lf2_7 : List Seg := [q0, q25, q29, q34]
theorem Cf2_7 : chk kN 7 (fun m => Tf2_7.all (ruleP m) && (u0.all (ruleP m) && (u25.all (ruleP m) && (u29.all (ruleP m) && (u34.all (ruleP m) && true))))) = true := by kernel_rfl
theorem Rf2_7 (q c : Int) (ok : ∀ r ∈ Tf2_7, r.good (qv q c)) : isTrue (@callFF (SVq q c) (@SymT.mk (SVq q c) Tf2_7 ok) Tryz.prog ⟨506, 508, 376⟩ (primOr (prim1 10 primTrue) (primOr (modPrim 1) (segPrim [15, 19, 26, 25] Lf2_7))) 100000 200 4 [sv 0, sv 1, .bool false] m1) = true := by kernel_rfl
theorem Wf2_7 (q c : Int) (hc : Int.emod c 8 = 1) (hk : kN (mN q) = 7) (w : World) :
    Calls Tryz.prog 4 ⟨[.int .i64 q, .int .i64 c, .bool false]⟩ w fun e w' => e = .returned (.bool true) ∧ Below w.heap.size w w' := by
  have hh := chk_at Cf2_7 hk
  simp only [Bool.and_eq_true] at hh
  obtain ⟨h0, h1, h2, h3, h4, _⟩ := hh
  letI SV : SymV := SVq q c
  letI ST : SymT := ⟨Tf2_7, all_good h0⟩
  exact true_call pok (primOr_ok (prim1_ok awake) (primOr_ok (modPrim_ok q c 1 (modC1 q c hc)) (segPrim_ok (l := Lf2_7) (List.forall_mem_cons.2 ⟨q0good q c h1, (List.forall_mem_cons.2 ⟨q25good q c h2, (List.forall_mem_cons.2 ⟨q29good q c h3, (List.forall_mem_cons.2 ⟨q34good q c h4, (fun _ h => by cases h)⟩)⟩)⟩)⟩)))) (Rf2_7 q c (all_good h0))
    (.cons _ _ _ _ (.sym _ _ _ _ rfl) (.cons _ _ _ _ (.sym _ _ _ _ rfl) (.cons _ _ _ _ (.bool _) .nil))) w
def Tf3_0 : List SRule := [.bin .add (iv 1) (sv 5) (sv 6), .bin .quo (sv 6) (iv 14) (iv 0)]
def Lf3_0 : List Seg := [q0, q25, q29, q35, q36, q37]
theorem Cf3_0 : chk kN 0 (fun m => Tf3_0.all (ruleP m) && (u0.all (ruleP m) && (u25.all (ruleP m) && (u29.all (ruleP m) && (u35.all (ruleP m) && (u36.all (ruleP m) && (u37.all (ruleP m) && true))))))) = true := by kernel_rfl
theorem Rf3_0 (q c : Int) (ok : ∀ r ∈ Tf3_0, r.good (qv q c)) : isTrue (@callFF (SVq q c) (@SymT.mk (SVq q c) Tf3_0 ok) Tryz.prog ⟨506, 508, 376⟩ (primOr (prim1 10 primTrue) (primOr (modPrim 2) (segPrim [15, 19, 26, 25] Lf3_0))) 100000 200 4 [sv 0, sv 1, .bool false] m1) = true := by kernel_rfl
theorem Wf3_0 (q c : Int) (hc : Int.emod c 8 = 2) (hk : kN (mN q) = 0) (w : World) :
    Calls Tryz.prog 4 ⟨[.int .i64 q, .int .i64 c, .bool false]⟩ w fun e w' => e = .returned (.bool true) ∧ Below w.heap.size w w' := by
  have hh := chk_at Cf3_0 hk
  simp only [Bool.and_eq_true] at hh
  obtain ⟨h0, h1, h2, h3, h4, h5, h6, _⟩ := hh
  letI SV : SymV := SVq q c
  letI ST : SymT := ⟨Tf3_0, all_good h0⟩
  exact true_call pok (primOr_ok (prim1_ok awake) (primOr_ok (modPrim_ok q c 2 (modC2 q c hc)) (segPrim_ok (l := Lf3_0) (List.forall_mem_cons.2 ⟨q0good q c h1, (List.forall_mem_cons.2 ⟨q25good q c h2, (List.forall_mem_cons.2 ⟨q29good q c h3, (List.forall_mem_cons.2 ⟨q35good q c h4, (List.forall_mem_cons.2 ⟨q36good q c h5, (List.forall_mem_cons.2 ⟨q37good q c h6, (fun _ h => by cases h)⟩)⟩)⟩)⟩)⟩)⟩)))) (Rf3_0 q c (all_good h0))
    (.cons _ _ _ _ (.sym _ _ _ _ rfl) (.cons _ _ _ _ (.sym _ _ _ _ rfl) (.cons _ _ _ _ (.bool _) .nil))) w
def Tf3_1 : List SRule := [.bin .add (iv 1) (sv 5) (sv 6), .bin .quo (sv 6) (iv 14) (iv 1)]
def Lf3_1 : List Seg := [q0, q25, q29, q35, q38, q39]
theorem Cf3_1 : chk kN 1 (fun m => Tf3_1.all (ruleP m) && (u0.all (ruleP m) && (u25.all (ruleP m) && (u29.all (ruleP m) && (u35.all (ruleP m) && (u38.all (ruleP m) && (u39.all (ruleP m) && true))))))) = true := by kernel_rfl
theorem Rf3_1 (q c : Int) (ok : ∀ r ∈ Tf3_1, r.good (qv q c)) : isTrue (@callFF (SVq q c) (@SymT.mk (SVq q c) Tf3_1 ok) Tryz.prog ⟨506, 508, 376⟩ (primOr (prim1 10 primTrue) (primOr (modPrim 2) (segPrim [15, 19, 26, 25] Lf3_1))) 100000 200 4 [sv 0, sv 1, .bool false] m1) = true := by kernel_rfl
theorem Wf3_1 (q c : Int) (hc : Int.emod c 8 = 2) (hk : kN (mN q) = 1) (w : World) :
    Calls Tryz.prog 4 ⟨[.int .i64 q, .int .i64 c, .bool false]⟩ w fun e w' => e = .returned (.bool true) ∧ Below w.heap.size w w' := by
  have hh := chk_at Cf3_1 hk
  simp only [Bool.and_eq_true] at hh
  obtain ⟨h0, h1, h2, h3, h4, h5, h6, _⟩ := hh
  letI SV : SymV := SVq q c
  letI ST : SymT := ⟨Tf3_1, all_good h0⟩
  exact true_call pok (primOr_ok (prim1_ok awake) (primOr_ok (modPrim_ok q c 2 (modC2 q c hc)) (segPrim_ok (l := Lf3_1) (List.forall_mem_cons.2 ⟨q0good q c h1, (List.forall_mem_cons.2 ⟨q25good q c h2, (List.forall_mem_cons.2 ⟨q29good q c h3, (List.forall_mem_cons.2 ⟨q35good q c h4, (List.forall_mem_cons.2 ⟨q38good q c h5, (List.forall_mem_cons.2 ⟨q39good q c h6, (fun _ h => by cases h)⟩)⟩)⟩)⟩)⟩)⟩)))) (Rf3_1 q c (all_good h0))
    (.cons _ _ _ _ (.sym _ _ _ _ rfl) (.cons _ _ _ _ (.sym _ _ _ _ rfl) (.cons _ _ _ _ (.bool _) .nil))) w
def Tf3_2 : List SRule := [.bin .add (iv 1) (sv 5) (sv 6), .bin .quo (sv 6) (iv 14) (iv 2)]
def Lf3_2 : List Seg := [q0, q25, q29, q35, q40, q41]
theorem Cf3_2 : chk kN 2 (fun m => Tf3_2.all (ruleP m) && (u0.all (ruleP m) && (u25.all (ruleP m) && (u29.all (ruleP m) && (u35.all (ruleP m) && (u40.all (ruleP m) && (u41.all (ruleP m) && true))))))) = true := by kernel_rfl
theorem Rf3_2 (q c : Int) (ok : ∀ r ∈ Tf3_2, r.good (qv q c)) : isTrue (@callFF (SVq q c) (@SymT.mk (SVq q c) Tf3_2 ok) Tryz.prog ⟨506, 508, 376⟩ (primOr (prim1 10 primTrue) (primOr (modPrim 2) (segPrim [15, 19, 26, 25] Lf3_2))) 100000 200 4 [sv 0, sv 1, .bool false] m1) = true := by kernel_rfl
theorem Wf3_2 (q c : Int) (hc : Int.emod c 8 = 2) (hk : kN (mN q) = 2) (w : World) :
    Calls Tryz.prog 4 ⟨[.int .i64 q, .int .i64 c, .bool false]⟩ w fun e w' => e = .returned (.bool true) ∧ Below w.heap.size w w' := by
  have hh := chk_at Cf3_2 hk
  simp only [Bool.and_eq_true] at hh
  obtain ⟨h0, h1, h2, h3, h4, h5, h6, _⟩ := hh
  letI SV : SymV := SVq q c
  letI ST : SymT := ⟨Tf3_2, all_good h0⟩
  exact true_call pok (primOr_ok (prim1_ok awake) (primOr_ok (modPrim_ok q c 2 (modC2 q c hc)) (segPrim_ok (l := Lf3_2) (List.forall_mem_cons.2 ⟨q0good q c h1, (List.forall_mem_cons.2 ⟨q25good q c h2, (List.forall_mem_cons.2 ⟨q29good q c h3, (List.forall_mem_cons.2 ⟨q35good q c h4, (List.forall_mem_cons.2 ⟨q40good q c h5, (List.forall_mem_cons.2 ⟨q41good q c h6, (fun _ h => by cases h)⟩)⟩)⟩)⟩)⟩)⟩)))) (Rf3_2 q c (all_good h0))
    (.cons _ _ _ _ (.sym _ _ _ _ rfl) (.cons _ _ _ _ (.sym _ _ _ _ rfl) (.cons _ _ _ _ (.bool _) .nil))) w
def Tf3_3 : List SRule := [.bin .add (iv 1) (sv 5) (sv 6), .bin .quo (sv 6) (iv 14) (iv 3)]
def Lf3_3 : List Seg := [q0, q25, q29, q35, q42]
theorem Cf3_3 : chk kN 3 (fun m => Tf3_3.all (ruleP m) && (u0.all (ruleP m) && (u25.all (ruleP m) && (u29.all (ruleP m) && (u35.all (ruleP m) && (u42.all (ruleP m) && true)))))) = true := by kernel_rfl
theorem Rf3_3 (q c : Int) (ok : ∀ r ∈ Tf3_3, r.good (qv q c)) : isTrue (@callFF (SVq q c) (@SymT.mk (SVq q c) Tf3_3 ok) Tryz.prog ⟨506, 508, 376⟩ (primOr (prim1 10 primTrue) (primOr (modPrim 2) (segPrim [15, 19, 26, 25] Lf3_3))) 100000 200 4 [sv 0, sv 1, .bool false] m1) = true := by kernel_rfl
theorem Wf3_3 (q c : Int) (hc : Int.emod c 8 = 2) (hk : kN (mN q) = 3) (w : World) :
    Calls Tryz.prog 4 ⟨[.int .i64 q, .int .i64 c, .bool false]⟩ w fun e w' => e = .returned (.bool true) ∧ Below w.heap.size w w' := by
  have hh := chk_at Cf3_3 hk
  simp only [Bool.and_eq_true] at hh
  obtain ⟨h0, h1, h2, h3, h4, h5, _⟩ := hh
  letI SV : SymV := SVq q c
  letI ST : SymT := ⟨Tf3_3, all_good h0⟩
  exact true_call pok (primOr_ok (prim1_ok awake) (primOr_ok (modPrim_ok q c 2 (modC2 q c hc)) (segPrim_ok (l := Lf3_3) (List.forall_mem_cons.2 ⟨q0good q c h1, (List.forall_mem_cons.2 ⟨q25good q c h2, (List.forall_mem_cons.2 ⟨q29good q c h3, (List.forall_mem_cons.2 ⟨q35good q c h4, (List.forall_mem_cons.2 ⟨q42good q c h5, (fun _ h => by cases h)⟩)⟩)⟩)⟩)⟩)))) (Rf3_3 q c (all_good h0))
    (.cons _ _ _ _ (.sym _ _ _ _ rfl) (.cons _ _ _ _ (.sym _ _ _ _ rfl) (.cons _ _ _ _ (.bool _) .nil))) w
def Tf3_4 : List SRule := [.bin .add (iv 1) (sv 5) (sv 6), .bin .quo (sv 6) (iv 14) (iv 4)]
def Lf3_4 : List Seg := [q0, q25, q29, q35, q42]
theorem Cf3_4 : chk kN 4 (fun m => Tf3_4.all (ruleP m) && (u0.all (ruleP m) && (u25.all (ruleP m) && (u29.all (ruleP m) && (u35.all (ruleP m) && (u42.all (ruleP m) && true)))))) = true := by kernel_rfl
theorem Rf3_4 (q c : Int) (ok : ∀ r ∈ Tf3_4, r.good (qv q c)) : isTrue (@callFF (SVq q c) (@SymT.mk (SVq q c) Tf3_4 ok) Tryz.prog ⟨506, 508, 376⟩ (primOr (prim1 10 primTrue) (primOr (modPrim 2) (segPrim [15, 19, 26, 25] Lf3_4))) 100000 200 4 [sv 0, sv 1, .bool false] m1) = true := by kernel_rfl
theorem Wf3_4 (q c : Int) (hc : Int.emod c 8 = 2) (hk : kN (mN q) = 4) (w : World) :
    Calls Tryz.prog 4 ⟨[.int .i64 q, .int .i64 c, .bool false]⟩ w fun e w' => e = .returned (.bool true) ∧ Below w.heap.size w w' := by
  have hh := chk_at Cf3_4 hk
  simp only [Bool.and_eq_true] at hh
  obtain ⟨h0, h1, h2, h3, h4, h5, _⟩ := hh
  letI SV : SymV := SVq q c
  letI ST : SymT := ⟨Tf3_4, all_good h0⟩
  exact true_call pok (primOr_ok (prim1_ok awake) (primOr_ok (modPrim_ok q c 2 (modC2 q c hc)) (segPrim_ok (l := Lf3_4) (List.forall_mem_cons.2 ⟨q0good q c h1, (List.forall_mem_cons.2 ⟨q25good q c h2, (List.forall_mem_cons.2 ⟨q29good q c h3, (List.forall_mem_cons.2 ⟨q35good q c h4, (List.forall_mem_cons.2 ⟨q42good q c h5, (fun _ h => by cases h)⟩)⟩)⟩)⟩)⟩)))) (Rf3_4 q c (all_good h0))
    (.cons _ _ _ _ (.sym _ _ _ _ rfl) (.cons _ _ _ _ (.sym _ _ _ _ rfl) (.cons _ _ _ _ (.bool _) .nil))) w
def Tf3_5 : List SRule := [.bin .add (iv 1) (sv 5) (sv 6), .bin .quo (sv 6) (iv 14) (iv 5)]
def Lf3_5 : List Seg := [q0, q25, q29, q35, q42]
theorem Cf3_5 : chk kN 5 (fun m => Tf3_5.all (ruleP m) && (u0.all (ruleP m) && (u25.all (ruleP m) && (u29.all (ruleP m) && (u35.all (ruleP m) && (u42.all (ruleP m) && true)))))) = true := by kernel_rfl
theorem Rf3_5 (q c : Int) (ok : ∀ r ∈ Tf3_5, r.good (qv q c)) : isTrue (@callFF (SVq q c) (@SymT.mk (SVq q c) Tf3_5 ok) Tryz.prog ⟨506, 508, 376⟩ (primOr (prim1 10 primTrue) (primOr (modPrim 2) (segPrim [15, 19, 26, 25] Lf3_5))) 100000 200 4 [sv 0, sv 1, .bool false] m1) = true := by kernel_rfl
theorem Wf3_5 (q c : Int) (hc : Int.emod c 8 = 2) (hk : kN (mN q) = 5) (w : World) :
    Calls Tryz.prog 4 ⟨[.int .i64 q, .int .i64 c, .bool false]⟩ w fun e w' => e = .returned (.bool true) ∧ Below w.heap.size w w' := by
  have hh := chk_at Cf3_5 hk
  simp only [Bool.and_eq_true] at hh
  obtain ⟨h0, h1, h2, h3, h4, h5, _⟩ := hh
  letI SV : SymV := SVq q c
  letI ST : SymT := ⟨Tf3_5, all_good h0⟩
  exact true_call pok (primOr_ok (prim1_ok awake) (primOr_ok (modPrim_ok q c 2 (modC2 q c hc)) (segPrim_ok (l := Lf3_5) (List.forall_mem_cons.2 ⟨q0good q c h1, (List.forall_mem_cons.2 ⟨q25good q c h2, (List.forall_mem_cons.2 ⟨q29good q c h3, (List.forall_mem_cons.2 ⟨q35good q c h4, (List.forall_mem_cons.2 ⟨q42good q c h5, (fun _ h => by cases h)⟩)⟩)⟩)⟩)⟩)))) (Rf3_5 q c (all_good h0))
    (.cons _ _ _ _ (.sym _ _ _ _ rfl) (.cons _ _ _ _ (.sym _ _ _ _ rfl) (.cons _ _ _ _ (.bool _) .nil))) w
def Tf3_6 : List SRule := [.bin .add (iv 1) (sv 5) (sv 6), .bin .quo (sv 6) (iv 14) (iv 6)]
def Lf3_6 : List Seg := [q0, q25, q29, q35, q42]
theorem Cf3_6 : chk kN 6 (fun m => Tf3_6.all (ruleP m) && (u0.all (ruleP m) && (u25.all (ruleP m) && (u29.all (ruleP m) && (u35.all (ruleP m) && (u42.all (ruleP m) && true)))))) = true := by kernel_rfl
theorem Rf3_6 (q c : Int) (ok : ∀ r ∈ Tf3_6, r.good (qv q c)) : isTrue (@callFF (SVq q c) (@SymT.mk (SVq q c) Tf3_6 ok) Tryz.prog ⟨506, 508, 376⟩ (primOr (prim1 10 primTrue) (primOr (modPrim 2) (segPrim [15, 19, 26, 25] Lf3_6))) 100000 200 4 [sv 0, sv 1, .bool false] m1) = true := by kernel_rfl
theorem Wf3_6 (q c : Int) (hc : Int.emod c 8 = 2) (hk : kN (mN q) = 6) (w : World) :
    Calls Tryz.prog 4 ⟨[.int .i64 q, .int .i64 c, .bool false]⟩ w fun e w' => e = .returned (.bool true) ∧ Below w.heap.size w w' := by
  have hh := chk_at Cf3_6 hk
  simp only [Bool.and_eq_true] at hh
  obtain ⟨h0, h1, h2, h3, h4, h5, _⟩ := hh
  letI SV : SymV := SVq q c
  letI ST : SymT := ⟨Tf3_6, all_good h0⟩
  exact true_call pok (primOr_ok (prim1_ok awake) (primOr_ok (modPrim_ok q c 2 (modC2 q c hc)) (segPrim_ok (l := Lf3_6) (List.forall_mem_cons.2 ⟨q0good q c h1, (List.forall_mem_cons.2 ⟨q25good q c h2, (List.forall_mem_cons.2 ⟨q29good q c h3, (List.forall_mem_cons.2 ⟨q35good q c h4, (List.forall_mem_cons.2 ⟨q42good q c h5, (fun _ h => by cases h)⟩)⟩)⟩)⟩)⟩)))) (Rf3_6 q c (all_good h0))
    (.cons _ _ _ _ (.sym _ _ _ _ rfl) (.cons _ _ _ _ (.sym _ _ _ _ rfl) (.cons _ _ _ _ (.bool _) .nil))) w
def Tf3_7 : List SRule := [.bin .add (iv 1) (sv 5) (sv 6), .bin .quo (sv 6) (iv 14) (iv 7)]
def Lf3_7 : List Seg := [q0, q25, q29, q35, q42]
theorem Cf3_7 : chk kN 7 (fun m => Tf3_7.all (ruleP m) && (u0.all (ruleP m) && (u25.all (ruleP m) && (u29.all (ruleP m) && (u35.all (ruleP m) && (u42.all (ruleP m) && true)))))) = true := by kernel_rfl
theorem Rf3_7 (q c : Int) (ok : ∀ r ∈ Tf3_7, r.good (qv q c)) : isTrue (@callFF (SVq q c) (@SymT.mk (SVq q c) Tf3_7 ok) Tryz.prog ⟨506, 508, 376⟩ (primOr (prim1 10 primTrue) (primOr (modPrim 2) (segPrim [15, 19, 26, 25] Lf3_7))) 100000 200 4 [sv 0, sv 1, .bool false] m1) = true := by kernel_rfl
theorem Wf3_7 (q c : Int) (hc : Int.emod c 8 = 2) (hk : kN (mN q) = 7) (w : World) :
    Calls Tryz.prog 4 ⟨[.int .i64 q, .int .i64 c, .bool false]⟩ w fun e w' => e = .returned (.bool true) ∧ Below w.heap.size w w' := by
  have hh := chk_at Cf3_7 hk
  simp only [Bool.and_eq_true] at hh
  obtain ⟨h0, h1, h2, h3, h4, h5, _⟩ := hh
  letI SV : SymV := SVq q c
  letI ST : SymT := ⟨Tf3_7, all_good h0⟩
  exact true_call pok (primOr_ok (prim1_ok awake) (primOr_ok (modPrim_ok q c 2 (modC2 q c hc)) (segPrim_ok (l := Lf3_7) (List.forall_mem_cons.2 ⟨q0good q c h1, (List.forall_mem_cons.2 ⟨q25good q c h2, (List.forall_mem_cons.2 ⟨q29good q c h3, (List.forall_mem_cons.2 ⟨q35good q c h4, (List.forall_mem_cons.2 ⟨q42good q c h5, (fun _ h => by cases h)⟩)⟩)⟩)⟩)⟩)))) (Rf3_7 q c (all_good h0))
    (.cons _ _ _ _ (.sym _ _ _ _ rfl) (.cons _ _ _ _ (.sym _ _ _ _ rfl) (.cons _ _ _ _ (.bool _) .nil))) w
def Tf4_0 : List SRule := [.bin .add (iv 1) (sv 5) (sv 6), .bin .quo (sv 6) (iv 14) (iv 0)]
def Lf4_0 : List Seg := [q0, q25, q29, q35, q43, q44, q45]
theorem Cf4_0 : chk kN 0 (fun m => Tf4_0.all (ruleP m) && (u0.all (ruleP m) && (u25.all (ruleP m) && (u29.all (ruleP m) && (u35.all (ruleP m) && (u43.all (ruleP m) && (u44.all (ruleP m) && (u45.all (ruleP m) && true)))))))) = true := by kernel_rfl
theorem Rf4_0 (q c : Int) (ok : ∀ r ∈ Tf4_0, r.good (qv q c)) : isTrue (@callFF (SVq q c) (@SymT.mk (SVq q c) Tf4_0 ok) Tryz.prog ⟨506, 508, 376⟩ (primOr (prim1 10 primTrue) (primOr (modPrim 3) (segPrim [15, 19, 26, 25] Lf4_0))) 100000 200 4 [sv 0, sv 1, .bool false] m1) = true := by kernel_rfl
theorem Wf4_0 (q c : Int) (hc : Int.emod c 8 = 3) (hk : kN (mN q) = 0) (w : World) :
    Calls Tryz.prog 4 ⟨[.int .i64 q, .int .i64 c, .bool false]⟩ w fun e w' => e = .returned (.bool true) ∧ Below w.heap.size w w' := by
  have hh := chk_at Cf4_0 hk
  simp only [Bool.and_eq_true] at hh
  obtain ⟨h0, h1, h2, h3, h4, h5, h6, h7, _⟩ := hh
  letI SV : SymV := SVq q c
  letI ST : SymT := ⟨Tf4_0, all_good h0⟩
  exact true_call pok (primOr_ok (prim1_ok awake) (primOr_ok (modPrim_ok q c 3 (modC3 q c hc)) (segPrim_ok (l := Lf4_0) (List.forall_mem_cons.2 ⟨q0good q c h1, (List.forall_mem_cons.2 ⟨q25good q c h2, (List.forall_mem_cons.2 ⟨q29good q c h3, (List.forall_mem_cons.2 ⟨q35good q c h4, (List.forall_mem_cons.2 ⟨q43good q c h5, (List.forall_mem_cons.2 ⟨q44good q c h6, (List.forall_mem_cons.2 ⟨q45good q c h7, (fun _ h => by cases h)⟩)⟩)⟩)⟩)⟩)⟩)⟩)))) (Rf4_0 q c (all_good h0))
    (.cons _ _ _ _ (.sym _ _ _ _ rfl) (.cons _ _ _ _ (.sym _ _ _ _ rfl) (.cons _ _ _ _ (.bool _) .nil))) w
def Tf4_1 : List SRule := [.bin .add (iv 1) (sv 5) (sv 6), .bin .quo (sv 6) (iv 14) (iv 1)]
def Lf4_1 : List Seg := [q0, q25, q29, q35, q43, q46, q47]
theorem Cf4_1 : chk kN 1 (fun m => Tf4_1.all (ruleP m) && (u0.all (ruleP m) && (u25.all (ruleP m) && (u29.all (ruleP m) && (u35.all (ruleP m) && (u43.all (ruleP m) && (u46.all (ruleP m) && (u47.all (ruleP m) && true)))))))) = true := by kernel_rfl
theorem Rf4_1 (q c : Int) (ok : ∀ r ∈ Tf4_1, r.good (qv q c)) : isTrue (@callFF (SVq q c) (@SymT.mk (SVq q c) Tf4_1 ok) Tryz.prog ⟨506, 508, 376⟩ (primOr (prim1 10 primTrue) (primOr (modPrim 3) (segPrim [15, 19, 26, 25] Lf4_1))) 100000 200 4 [sv 0, sv 1, .bool false] m1) = true := by kernel_rfl
theorem Wf4_1 (q c : Int) (hc : Int.emod c 8 = 3) (hk : kN (mN q) = 1) (w : World) :
    Calls Tryz.prog 4 ⟨[.int .i64 q, .int .i64 c, .bool false]⟩ w fun e w' => e = .returned (.bool true) ∧ Below w.heap.size w w' := by
  have hh := chk_at Cf4_1 hk
  simp only [Bool.and_eq_true] at hh
  obtain ⟨h0, h1, h2, h3, h4, h5, h6, h7, _⟩ := hh
  letI SV : SymV := SVq q c
  letI ST : SymT := ⟨Tf4_1, all_good h0⟩
  exact true_call pok (primOr_ok (prim1_ok awake) (primOr_ok (modPrim_ok q c 3 (modC3 q c hc)) (segPrim_ok (l := Lf4_1) (List.forall_mem_cons.2 ⟨q0good q c h1, (List.forall_mem_cons.2 ⟨q25good q c h2, (List.forall_mem_cons.2 ⟨q29good q c h3, (List.forall_mem_cons.2 ⟨q35good q c h4, (List.forall_mem_cons.2 ⟨q43good q c h5, (List.forall_mem_cons.2 ⟨q46good q c h6, (List.forall_mem_cons.2 ⟨q47good q c h7, (fun _ h => by cases h)⟩)⟩)⟩)⟩)⟩)⟩)⟩)))) (Rf4_1 q c (all_good h0))
    (.cons _ _ _ _ (.sym _ _ _ _ rfl) (.cons _ _ _ _ (.sym _ _ _ _ rfl) (.cons _ _ _ _ (.bool _) .nil))) w
def Tf4_2 : List SRule := [.bin .add (iv 1) (sv 5) (sv 6), .bin .quo (sv 6) (iv 14) (iv 2)]
def Lf4_2 : List Seg := [q0, q25, q29, q35, q43, q48, q49]
theorem Cf4_2 : chk kN 2 (fun m => Tf4_2.all (ruleP m) && (u0.all (ruleP m) && (u25.all (ruleP m) && (u29.all (ruleP m) && (u35.all (ruleP m) && (u43.all (ruleP m) && (u48.all (ruleP m) && (u49.all (ruleP m) && true)))))))) = true := by kernel_rfl
theorem Rf4_2 (q c : Int) (ok : ∀ r ∈ Tf4_2, r.good (qv q c)) : isTrue (@callFF (SVq q c) (@SymT.mk (SVq q c) Tf4_2 ok) Tryz.prog ⟨506, 508, 376⟩ (primOr (prim1 10 primTrue) (primOr (modPrim 3) (segPrim [15, 19, 26, 25] Lf4_2))) 100000 200 4 [sv 0, sv 1, .bool false] m1) = true := by kernel_rfl
theorem Wf4_2 (q c : Int) (hc : Int.emod c 8 = 3) (hk : kN (mN q) = 2) (w : World) :
    Calls Tryz.prog 4 ⟨[.int .i64 q, .int .i64 c, .bool false]⟩ w fun e w' => e = .returned (.bool true) ∧ Below w.heap.size w w' := by
  have hh := chk_at Cf4_2 hk
  simp only [Bool.and_eq_true] at hh
  obtain ⟨h0, h1, h2, h3, h4, h5, h6, h7, _⟩ := hh
  letI SV : SymV := SVq q c
  letI ST : SymT := ⟨Tf4_2, all_good h0⟩
  exact true_call pok (primOr_ok (prim1_ok awake) (primOr_ok (modPrim_ok q c 3 (modC3 q c hc)) (segPrim_ok (l := Lf4_2) (List.forall_mem_cons.2 ⟨q0good q c h1, (List.forall_mem_cons.2 ⟨q25good q c h2, (List.forall_mem_cons.2 ⟨q29good q c h3, (List.forall_mem_cons.2 ⟨q35good q c h4, (List.forall_mem_cons.2 ⟨q43good q c h5, (List.forall_mem_cons.2 ⟨q48good q c h6, (List.forall_mem_cons.2 ⟨q49good q c h7, (fun _ h => by cases h)⟩)⟩)⟩)⟩)⟩)⟩)⟩)))) (Rf4_2 q c (all_good h0))
    (.cons _ _ _ _ (.sym _ _ _ _ rfl) (.cons _ _ _ _ (.sym _ _ _ _ rfl) (.cons _ _ _ _ (.bool _) .nil))) w
def Tf4_3 : List SRule := [.bin .add (iv 1) (sv 5) (sv 6), .bin .quo (sv 6) (iv 14) (iv 3)]
def Lf4_3 : List Seg := [q0, q25, q29, q35, q43, q50, q51]
theorem Cf4_3 : chk kN 3 (fun m => Tf4_3.all (ruleP m) && (u0.all (ruleP m) && (u25.all (ruleP m) && (u29.all (ruleP m) && (u35.all (ruleP m) && (u43.all (ruleP m) && (u50.all (ruleP m) && (u51.all (ruleP m) && true)))))))) = true := by kernel_rfl
theorem Rf4_3 (q c : Int) (ok : ∀ r ∈ Tf4_3, r.good (qv q c)) : isTrue (@callFF (SVq q c) (@SymT.mk (SVq q c) Tf4_3 ok) Tryz.prog ⟨506, 508, 376⟩ (primOr (prim1 10 primTrue) (primOr (modPrim 3) (segPrim [15, 19, 26, 25] Lf4_3))) 100000 200 4 [sv 0, sv 1, .bool false] m1) = true := by kernel_rfl
theorem Wf4_3 (q c : Int) (hc : Int.emod c 8 = 3) (hk : kN (mN q) = 3) (w : World) :
    Calls Tryz.prog 4 ⟨[.int .i64 q, .int .i64 c, .bool false]⟩ w fun e w' => e = .returned (.bool true) ∧ Below w.heap.size w w' := by
  have hh := chk_at Cf4_3 hk
  simp only [Bool.and_eq_true] at hh
  obtain ⟨h0, h1, h2, h3, h4, h5, h6, h7, _⟩ := hh
  letI SV : SymV := SVq q c
  letI ST : SymT := ⟨Tf4_3, all_good h0⟩
  exact true_call pok (primOr_ok (prim1_ok awake) (primOr_ok (modPrim_ok q c 3 (modC3 q c hc)) (segPrim_ok (l := Lf4_3) (List.forall_mem_cons.2 ⟨q0good q c h1, (List.forall_mem_cons.2 ⟨q25good q c h2, (List.forall_mem_cons.2 ⟨q29good q c h3, (List.forall_mem_cons.2 ⟨q35good q c h4, (List.forall_mem_cons.2 ⟨q43good q c h5, (List.forall_mem_cons.2 ⟨q50good q c h6, (List.forall_mem_cons.2 ⟨q51good q c h7, (fun _ h => by cases h)⟩)⟩)⟩)⟩)⟩)⟩)⟩)))) (Rf4_3 q c (all_good h0))
    (.cons _ _ _ _ (.sym _ _ _ _ rfl) (.cons _ _ _ _ (.sym _ _ _ _ rfl) (.cons _ _ _ _ (.bool _) .nil))) w
def Tf4_4 : List SRule := [.bin .add (iv 1) (sv 5) (sv 6), .bin .quo (sv 6) (iv 14) (iv 4)]
def Lf4_4 : List Seg := [q0, q25, q29, q35, q43, q52]
theorem Cf4_4 : chk kN 4 (fun m => Tf4_4.all (ruleP m) && (u0.all (ruleP m) && (u25.all (ruleP m) && (u29.all (ruleP m) && (u35.all (ruleP m) && (u43.all (ruleP m) && (u52.all (ruleP m) && true))))))) = true := by kernel_rfl
theorem Rf4_4 (q c : Int) (ok : ∀ r ∈ Tf4_4, r.good (qv q c)) : isTrue (@callFF (SVq q c) (@SymT.mk (SVq q c) Tf4_4 ok) Tryz.prog ⟨506, 508, 376⟩ (primOr (prim1 10 primTrue) (primOr (modPrim 3) (segPrim [15, 19, 26, 25] Lf4_4))) 100000 200 4 [sv 0, sv 1, .bool false] m1) = true := by kernel_rfl
theorem Wf4_4 (q c : Int) (hc : Int.emod c 8 = 3) (hk : kN (mN q) = 4) (w : World) :
    Calls Tryz.prog 4 ⟨[.int .i64 q, .int .i64 c, .bool false]⟩ w fun e w' => e = .returned (.bool true) ∧ Below w.heap.size w w' := by
  have hh := chk_at Cf4_4 hk
  simp only [Bool.and_eq_true] at hh
  obtain ⟨h0, h1, h2, h3, h4, h5, h6, _⟩ := hh
  letI SV : SymV := SVq q c
  letI ST : SymT := ⟨Tf4_4, all_good h0⟩
  exact true_call pok (primOr_ok (prim1_ok awake) (primOr_ok (modPrim_ok q c 3 (modC3 q c hc)) (segPrim_ok (l := Lf4_4) (List.forall_mem_cons.2 ⟨q0good q c h1, (List.forall_mem_cons.2 ⟨q25good q c h2, (List.forall_mem_cons.2 ⟨q29good q c h3, (List.forall_mem_cons.2 ⟨q35good q c h4, (List.forall_mem_cons.2 ⟨q43good q c h5, (List.forall_mem_cons.2 ⟨q52good q c h6, (fun _ h => by cases h)⟩)⟩)⟩)⟩)⟩)⟩)))) (Rf4_4 q c (all_good h0))
    (.cons _ _ _ _ (.sym _ _ _ _ rfl) (.cons _ _ _ _ (.sym _ _ _ _ rfl) (.cons _ _ _ _ (.bool _) .nil))) w
def Tf4_5 : List SRule := [.bin .add (iv 1) (sv 5) (sv 6), .bin .quo (sv 6) (iv 14) (iv 5)]
def Lf4_5 : List Seg := [q0, q25, q29, q35, q43, q52]
theorem Cf4_5 : chk kN 5 (fun m => Tf4_5.all (ruleP m) && (u0.all (ruleP m) && (u25.all (ruleP m) && (u29.all (ruleP m) && (u35.all (ruleP m) && (u43.all (ruleP m) && (u52.all (ruleP m) && true))))))) = true := by kernel_rfl
theorem Rf4_5 (q c : Int) (ok : ∀ r ∈ Tf4_5, r.good (qv q c)) : isTrue (@callFF (SVq q c) (@SymT.mk (SVq q c) Tf4_5 ok) Tryz.prog ⟨506, 508, 376⟩ (primOr (prim1 10 primTrue) (primOr (modPrim 3) (segPrim [15, 19, 26, 25] Lf4_5))) 100000 200 4 [sv 0, sv 1, .bool false] m1) = true := by kernel_rfl
theorem Wf4_5 (q c : Int) (hc : Int.emod c 8 = 3) (hk : kN (mN q) = 5) (w : World) :
    Calls Tryz.prog 4 ⟨[.int .i64 q, .int .i64 c, .bool false]⟩ w fun e w' => e = .returned (.bool true) ∧ Below w.heap.size w w' := by
  have hh := chk_at Cf4_5 hk
  simp only [Bool.and_eq_true] at hh
  obtain ⟨h0, h1, h2, h3, h4, h5, h6, _⟩ := hh
  letI SV : SymV := SVq q c
  letI ST : SymT := ⟨Tf4_5, all_good h0⟩
  exact true_call pok (primOr_ok (prim1_ok awake) (primOr_ok (modPrim_ok q c 3 (modC3 q c hc)) (segPrim_ok (l := Lf4_5) (List.forall_mem_cons.2 ⟨q0good q c h1, (List.forall_mem_cons.2 ⟨q25good q c h2, (List.forall_mem_cons.2 ⟨q29good q c h3, (List.forall_mem_cons.2 ⟨q35good q c h4, (List.forall_mem_cons.2 ⟨q43good q c h5, (List.forall_mem_cons.2 ⟨q52good q c h6, (fun _ h => by cases h)⟩)⟩)⟩)⟩)⟩)⟩)))) (Rf4_5 q c (all_good h0))
    (.cons _ _ _ _ (.sym _ _ _ _ rfl) (.cons _ _ _ _ (.sym _ _ _ _ rfl) (.cons _ _ _ _ (.bool _) .nil))) w
end QueueRow
end Go.Proofs.YtopofdjgfbimnaaGreat
