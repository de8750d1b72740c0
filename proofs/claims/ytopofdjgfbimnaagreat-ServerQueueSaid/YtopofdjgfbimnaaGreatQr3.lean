/- The law, run: at every number of calls, at every queue of a kind. -/
import Derived.Test.YtopofdjgfbimnaaGreatQs0
import Derived.Test.YtopofdjgfbimnaaGreatQs1
import Derived.Test.YtopofdjgfbimnaaGreatQs2
import Derived.Test.YtopofdjgfbimnaaGreatQs3
import Derived.Test.YtopofdjgfbimnaaGreatQs4
import Derived.Test.YtopofdjgfbimnaaGreatQs5
import Derived.Test.YtopofdjgfbimnaaGreatQs6
import Derived.Test.YtopofdjgfbimnaaGreatQs7
import Derived.Test.YtopofdjgfbimnaaGreatQs8
import Derived.Test.YtopofdjgfbimnaaGreatQs9
import Derived.Test.YtopofdjgfbimnaaGreatQs10
import Derived.Test.YtopofdjgfbimnaaGreatQs11
import Derived.Test.YtopofdjgfbimnaaGreatQs12
namespace Go.Proofs.YtopofdjgfbimnaaGreat
open Go Go.Eng
namespace QueueRow
open Go.RowKit
def Tf4_6 : List SRule := [.bin .add (iv 1) (sv 5) (sv 6), .bin .quo (sv 6) (iv 14) (iv 6)]
def Lf4_6 : List Seg := [q0, q25, q29, q35, q43, q52]
theorem Cf4_6 : chk kN 6 (fun m => Tf4_6.all (ruleP m) && (u0.all (ruleP m) && (u25.all (ruleP m) && (u29.all (ruleP m) && (u35.all (ruleP m) && (u43.all (ruleP m) && (u52.all (ruleP m) && true))))))) = true := by kernel_rfl
theorem Rf4_6 (q c : Int) (ok : ∀ r ∈ Tf4_6, r.good (qv q c)) : isTrue (@callFF (SVq q c) (@SymT.mk (SVq q c) Tf4_6 ok) Tryz.prog ⟨506, 508, 376⟩ (primOr (prim1 10 primTrue) (primOr (modPrim 3) (segPrim [15, 19, 26, 25] Lf4_6))) 100000 200 4 [sv 0, sv 1, .bool false] m1) = true := by kernel_rfl
theorem Wf4_6 (q c : Int) (hc : Int.emod c 8 = 3) (hk : kN (mN q) = 6) (w : World) :
    Calls Tryz.prog 4 ⟨[.int .i64 q, .int .i64 c, .bool false]⟩ w fun e w' => e = .returned (.bool true) ∧ Below w.heap.size w w' := by
  have hh := chk_at Cf4_6 hk
  simp only [Bool.and_eq_true] at hh
  obtain ⟨h0, h1, h2, h3, h4, h5, h6, _⟩ := hh
  letI SV : SymV := SVq q c
  letI ST : SymT := ⟨Tf4_6, all_good h0⟩
  exact true_call pok (primOr_ok (prim1_ok awake) (primOr_ok (modPrim_ok q c 3 (modC3 q c hc)) (segPrim_ok (l := Lf4_6) (List.forall_mem_cons.2 ⟨q0good q c h1, (List.forall_mem_cons.2 ⟨q25good q c h2, (List.forall_mem_cons.2 ⟨q29good q c h3, (List.forall_mem_cons.2 ⟨q35good q c h4, (List.forall_mem_cons.2 ⟨q43good q c h5, (List.forall_mem_cons.2 ⟨q52good q c h6, (fun _ h => by cases h)⟩)⟩)⟩)⟩)⟩)⟩)))) (Rf4_6 q c (all_good h0))
    (.cons _ _ _ _ (.sym _ _ _ _ rfl) (.cons _ _ _ _ (.sym _ _ _ _ rfl) (.cons _ _ _ _ (.bool _) .nil))) w
def Tf4_7 : List SRule := [.bin .add (iv 1) (sv 5) (sv 6), .bin .quo (sv 6) (iv 14) (iv 7)]
def Lf4_7 : List Seg := [q0, q25, q29, q35, q43, q52]
theorem Cf4_7 : chk kN 7 (fun m => Tf4_7.all (ruleP m) && (u0.all (ruleP m) && (u25.all (ruleP m) && (u29.all (ruleP m) && (u35.all (ruleP m) && (u43.all (ruleP m) && (u52.all (ruleP m) && true))))))) = true := by kernel_rfl
theorem Rf4_7 (q c : Int) (ok : ∀ r ∈ Tf4_7, r.good (qv q c)) : isTrue (@callFF (SVq q c) (@SymT.mk (SVq q c) Tf4_7 ok) Tryz.prog ⟨506, 508, 376⟩ (primOr (prim1 10 primTrue) (primOr (modPrim 3) (segPrim [15, 19, 26, 25] Lf4_7))) 100000 200 4 [sv 0, sv 1, .bool false] m1) = true := by kernel_rfl
theorem Wf4_7 (q c : Int) (hc : Int.emod c 8 = 3) (hk : kN (mN q) = 7) (w : World) :
    Calls Tryz.prog 4 ⟨[.int .i64 q, .int .i64 c, .bool false]⟩ w fun e w' => e = .returned (.bool true) ∧ Below w.heap.size w w' := by
  have hh := chk_at Cf4_7 hk
  simp only [Bool.and_eq_true] at hh
  obtain ⟨h0, h1, h2, h3, h4, h5, h6, _⟩ := hh
  letI SV : SymV := SVq q c
  letI ST : SymT := ⟨Tf4_7, all_good h0⟩
  exact true_call pok (primOr_ok (prim1_ok awake) (primOr_ok (modPrim_ok q c 3 (modC3 q c hc)) (segPrim_ok (l := Lf4_7) (List.forall_mem_cons.2 ⟨q0good q c h1, (List.forall_mem_cons.2 ⟨q25good q c h2, (List.forall_mem_cons.2 ⟨q29good q c h3, (List.forall_mem_cons.2 ⟨q35good q c h4, (List.forall_mem_cons.2 ⟨q43good q c h5, (List.forall_mem_cons.2 ⟨q52good q c h6, (fun _ h => by cases h)⟩)⟩)⟩)⟩)⟩)⟩)))) (Rf4_7 q c (all_good h0))
    (.cons _ _ _ _ (.sym _ _ _ _ rfl) (.cons _ _ _ _ (.sym _ _ _ _ rfl) (.cons _ _ _ _ (.bool _) .nil))) w
def Tf5_0 : List SRule := [.bin .add (iv 1) (sv 5) (sv 6), .bin .quo (sv 6) (iv 14) (iv 0)]
def Lf5_0 : List Seg := [q0, q25, q29, q35, q43, q53, q54, q55]
theorem Cf5_0 : chk kN 0 (fun m => Tf5_0.all (ruleP m) && (u0.all (ruleP m) && (u25.all (ruleP m) && (u29.all (ruleP m) && (u35.all (ruleP m) && (u43.all (ruleP m) && (u53.all (ruleP m) && (u54.all (ruleP m) && (u55.all (ruleP m) && true))))))))) = true := by kernel_rfl
theorem Rf5_0 (q c : Int) (ok : ∀ r ∈ Tf5_0, r.good (qv q c)) : isTrue (@callFF (SVq q c) (@SymT.mk (SVq q c) Tf5_0 ok) Tryz.prog ⟨506, 508, 376⟩ (primOr (prim1 10 primTrue) (primOr (modPrim 4) (segPrim [15, 19, 26, 25] Lf5_0))) 100000 200 4 [sv 0, sv 1, .bool false] m1) = true := by kernel_rfl
theorem Wf5_0 (q c : Int) (hc : Int.emod c 8 = 4) (hk : kN (mN q) = 0) (w : World) :
    Calls Tryz.prog 4 ⟨[.int .i64 q, .int .i64 c, .bool false]⟩ w fun e w' => e = .returned (.bool true) ∧ Below w.heap.size w w' := by
  have hh := chk_at Cf5_0 hk
  simp only [Bool.and_eq_true] at hh
  obtain ⟨h0, h1, h2, h3, h4, h5, h6, h7, h8, _⟩ := hh
  letI SV : SymV := SVq q c
  letI ST : SymT := ⟨Tf5_0, all_good h0⟩
  exact true_call pok (primOr_ok (prim1_ok awake) (primOr_ok (modPrim_ok q c 4 (modC4 q c hc)) (segPrim_ok (l := Lf5_0) (List.forall_mem_cons.2 ⟨q0good q c h1, (List.forall_mem_cons.2 ⟨q25good q c h2, (List.forall_mem_cons.2 ⟨q29good q c h3, (List.forall_mem_cons.2 ⟨q35good q c h4, (List.forall_mem_cons.2 ⟨q43good q c h5, (List.forall_mem_cons.2 ⟨q53good q c h6, (List.forall_mem_cons.2 ⟨q54good q c h7, (List.forall_mem_cons.2 ⟨q55good q c h8, (fun _ h => by cases h)⟩)⟩)⟩)⟩)⟩)⟩)⟩)⟩)))) (Rf5_0 q c (all_good h0))
    (.cons _ _ _ _ (.sym _ _ _ _ rfl) (.cons _ _ _ _ (.sym _ _ _ _ rfl) (.cons _ _ _ _ (.bool _) .nil))) w
def Tf5_1 : List SRule := [.bin .add (iv 1) (sv 5) (sv 6), .bin .quo (sv 6) (iv 14) (iv 1)]
def Lf5_1 : List Seg := [q0, q25, q29, q35, q43, q53, q56, q57]
theorem Cf5_1 : chk kN 1 (fun m => Tf5_1.all (ruleP m) && (u0.all (ruleP m) && (u25.all (ruleP m) && (u29.all (ruleP m) && (u35.all (ruleP m) && (u43.all (ruleP m) && (u53.all (ruleP m) && (u56.all (ruleP m) && (u57.all (ruleP m) && true))))))))) = true := by kernel_rfl
theorem Rf5_1 (q c : Int) (ok : ∀ r ∈ Tf5_1, r.good (qv q c)) : isTrue (@callFF (SVq q c) (@SymT.mk (SVq q c) Tf5_1 ok) Tryz.prog ⟨506, 508, 376⟩ (primOr (prim1 10 primTrue) (primOr (modPrim 4) (segPrim [15, 19, 26, 25] Lf5_1))) 100000 200 4 [sv 0, sv 1, .bool false] m1) = true := by kernel_rfl
theorem Wf5_1 (q c : Int) (hc : Int.emod c 8 = 4) (hk : kN (mN q) = 1) (w : World) :
    Calls Tryz.prog 4 ⟨[.int .i64 q, .int .i64 c, .bool false]⟩ w fun e w' => e = .returned (.bool true) ∧ Below w.heap.size w w' := by
  have hh := chk_at Cf5_1 hk
  simp only [Bool.and_eq_true] at hh
  obtain ⟨h0, h1, h2, h3, h4, h5, h6, h7, h8, _⟩ := hh
  letI SV : SymV := SVq q c
  letI ST : SymT := ⟨Tf5_1, all_good h0⟩
  exact true_call pok (primOr_ok (prim1_ok awake) (primOr_ok (modPrim_ok q c 4 (modC4 q c hc)) (segPrim_ok (l := Lf5_1) (List.forall_mem_cons.2 ⟨q0good q c h1, (List.forall_mem_cons.2 ⟨q25good q c h2, (List.forall_mem_cons.2 ⟨q29good q c h3, (List.forall_mem_cons.2 ⟨q35good q c h4, (List.forall_mem_cons.2 ⟨q43good q c h5, (List.forall_mem_cons.2 ⟨q53good q c h6, (List.forall_mem_cons.2 ⟨q56good q c h7, (List.forall_mem_cons.2 ⟨q57good q c h8, (fun _ h => by cases h)⟩)⟩)⟩)⟩)⟩)⟩)⟩)⟩)))) (Rf5_1 q c (all_good h0))
    (.cons _ _ _ _ (.sym _ _ _ _ rfl) (.cons _ _ _ _ (.sym _ _ _ _ rfl) (.cons _ _ _ _ (.bool _) .nil))) w
def Tf5_2 : List SRule := [.bin .add (iv 1) (sv 5) (sv 6), .bin .quo (sv 6) (iv 14) (iv 2)]
def Lf5_2 : List Seg := [q0, q25, q29, q35, q43, q53, q58, q59]
theorem Cf5_2 : chk kN 2 (fun m => Tf5_2.all (ruleP m) && (u0.all (ruleP m) && (u25.all (ruleP m) && (u29.all (ruleP m) && (u35.all (ruleP m) && (u43.all (ruleP m) && (u53.all (ruleP m) && (u58.all (ruleP m) && (u59.all (ruleP m) && true))))))))) = true := by kernel_rfl
theorem Rf5_2 (q c : Int) (ok : ∀ r ∈ Tf5_2, r.good (qv q c)) : isTrue (@callFF (SVq q c) (@SymT.mk (SVq q c) Tf5_2 ok) Tryz.prog ⟨506, 508, 376⟩ (primOr (prim1 10 primTrue) (primOr (modPrim 4) (segPrim [15, 19, 26, 25] Lf5_2))) 100000 200 4 [sv 0, sv 1, .bool false] m1) = true := by kernel_rfl
theorem Wf5_2 (q c : Int) (hc : Int.emod c 8 = 4) (hk : kN (mN q) = 2) (w : World) :
    Calls Tryz.prog 4 ⟨[.int .i64 q, .int .i64 c, .bool false]⟩ w fun e w' => e = .returned (.bool true) ∧ Below w.heap.size w w' := by
  have hh := chk_at Cf5_2 hk
  simp only [Bool.and_eq_true] at hh
  obtain ⟨h0, h1, h2, h3, h4, h5, h6, h7, h8, _⟩ := hh
  letI SV : SymV := SVq q c
  letI ST : SymT := ⟨Tf5_2, all_good h0⟩
  exact true_call pok (primOr_ok (prim1_ok awake) (primOr_ok (modPrim_ok q c 4 (modC4 q c hc)) (segPrim_ok (l := Lf5_2) (List.forall_mem_cons.2 ⟨q0good q c h1, (List.forall_mem_cons.2 ⟨q25good q c h2, (List.forall_mem_cons.2 ⟨q29good q c h3, (List.forall_mem_cons.2 ⟨q35good q c h4, (List.forall_mem_cons.2 ⟨q43good q c h5, (List.forall_mem_cons.2 ⟨q53good q c h6, (List.forall_mem_cons.2 ⟨q58good q c h7, (List.forall_mem_cons.2 ⟨q59good q c h8, (fun _ h => by cases h)⟩)⟩)⟩)⟩)⟩)⟩)⟩)⟩)))) (Rf5_2 q c (all_good h0))
    (.cons _ _ _ _ (.sym _ _ _ _ rfl) (.cons _ _ _ _ (.sym _ _ _ _ rfl) (.cons _ _ _ _ (.bool _) .nil))) w
def Tf5_3 : List SRule := [.bin .add (iv 1) (sv 5) (sv 6), .bin .quo (sv 6) (iv 14) (iv 3)]
def Lf5_3 : List Seg := [q0, q25, q29, q35, q43, q53, q60, q61]
theorem Cf5_3 : chk kN 3 (fun m => Tf5_3.all (ruleP m) && (u0.all (ruleP m) && (u25.all (ruleP m) && (u29.all (ruleP m) && (u35.all (ruleP m) && (u43.all (ruleP m) && (u53.all (ruleP m) && (u60.all (ruleP m) && (u61.all (ruleP m) && true))))))))) = true := by kernel_rfl
theorem Rf5_3 (q c : Int) (ok : ∀ r ∈ Tf5_3, r.good (qv q c)) : isTrue (@callFF (SVq q c) (@SymT.mk (SVq q c) Tf5_3 ok) Tryz.prog ⟨506, 508, 376⟩ (primOr (prim1 10 primTrue) (primOr (modPrim 4) (segPrim [15, 19, 26, 25] Lf5_3))) 100000 200 4 [sv 0, sv 1, .bool false] m1) = true := by kernel_rfl
theorem Wf5_3 (q c : Int) (hc : Int.emod c 8 = 4) (hk : kN (mN q) = 3) (w : World) :
    Calls Tryz.prog 4 ⟨[.int .i64 q, .int .i64 c, .bool false]⟩ w fun e w' => e = .returned (.bool true) ∧ Below w.heap.size w w' := by
  have hh := chk_at Cf5_3 hk
  simp only [Bool.and_eq_true] at hh
  obtain ⟨h0, h1, h2, h3, h4, h5, h6, h7, h8, _⟩ := hh
  letI SV : SymV := SVq q c
  letI ST : SymT := ⟨Tf5_3, all_good h0⟩
  exact true_call pok (primOr_ok (prim1_ok awake) (primOr_ok (modPrim_ok q c 4 (modC4 q c hc)) (segPrim_ok (l := Lf5_3) (List.forall_mem_cons.2 ⟨q0good q c h1, (List.forall_mem_cons.2 ⟨q25good q c h2, (List.forall_mem_cons.2 ⟨q29good q c h3, (List.forall_mem_cons.2 ⟨q35good q c h4, (List.forall_mem_cons.2 ⟨q43good q c h5, (List.forall_mem_cons.2 ⟨q53good q c h6, (List.forall_mem_cons.2 ⟨q60good q c h7, (List.forall_mem_cons.2 ⟨q61good q c h8, (fun _ h => by cases h)⟩)⟩)⟩)⟩)⟩)⟩)⟩)⟩)))) (Rf5_3 q c (all_good h0))
    (.cons _ _ _ _ (.sym _ _ _ _ rfl) (.cons _ _ _ _ (.sym _ _ _ _ rfl) (.cons _ _ _ _ (.bool _) .nil))) w
def Tf5_4 : List SRule := [.bin .add (iv 1) (sv 5) (sv 6), .bin .quo (sv 6) (iv 14) (iv 4)]
def Lf5_4 : List Seg := [q0, q25, q29, q35, q43, q53, q62, q63]
theorem Cf5_4 : chk kN 4 (fun m => Tf5_4.all (ruleP m) && (u0.all (ruleP m) && (u25.all (ruleP m) && (u29.all (ruleP m) && (u35.all (ruleP m) && (u43.all (ruleP m) && (u53.all (ruleP m) && (u62.all (ruleP m) && (u63.all (ruleP m) && true))))))))) = true := by kernel_rfl
theorem Rf5_4 (q c : Int) (ok : ∀ r ∈ Tf5_4, r.good (qv q c)) : isTrue (@callFF (SVq q c) (@SymT.mk (SVq q c) Tf5_4 ok) Tryz.prog ⟨506, 508, 376⟩ (primOr (prim1 10 primTrue) (primOr (modPrim 4) (segPrim [15, 19, 26, 25] Lf5_4))) 100000 200 4 [sv 0, sv 1, .bool false] m1) = true := by kernel_rfl
theorem Wf5_4 (q c : Int) (hc : Int.emod c 8 = 4) (hk : kN (mN q) = 4) (w : World) :
    Calls Tryz.prog 4 ⟨[.int .i64 q, .int .i64 c, .bool false]⟩ w fun e w' => e = .returned (.bool true) ∧ Below w.heap.size w w' := by
  have hh := chk_at Cf5_4 hk
  simp only [Bool.and_eq_true] at hh
  obtain ⟨h0, h1, h2, h3, h4, h5, h6, h7, h8, _⟩ := hh
  letI SV : SymV := SVq q c
  letI ST : SymT := ⟨Tf5_4, all_good h0⟩
  exact true_call pok (primOr_ok (prim1_ok awake) (primOr_ok (modPrim_ok q c 4 (modC4 q c hc)) (segPrim_ok (l := Lf5_4) (List.forall_mem_cons.2 ⟨q0good q c h1, (List.forall_mem_cons.2 ⟨q25good q c h2, (List.forall_mem_cons.2 ⟨q29good q c h3, (List.forall_mem_cons.2 ⟨q35good q c h4, (List.forall_mem_cons.2 ⟨q43good q c h5, (List.forall_mem_cons.2 ⟨q53good q c h6, (List.forall_mem_cons.2 ⟨q62good q c h7, (List.forall_mem_cons.2 ⟨q63good q c h8, (fun _ h => by cases h)⟩)⟩)⟩)⟩)⟩)⟩)⟩)⟩)))) (Rf5_4 q c (all_good h0))
    (.cons _ _ _ _ (.sym _ _ _ _ rfl) (.cons _ _ _ _ (.sym _ _ _ _ rfl) (.cons _ _ _ _ (.bool _) .nil))) w
def Tf5_5 : List SRule := [.bin .add (iv 1) (sv 5) (sv 6), .bin .quo (sv 6) (iv 14) (iv 5)]
def Lf5_5 : List Seg := [q0, q25, q29, q35, q43, q53, q64]
theorem Cf5_5 : chk kN 5 (fun m => Tf5_5.all (ruleP m) && (u0.all (ruleP m) && (u25.all (ruleP m) && (u29.all (ruleP m) && (u35.all (ruleP m) && (u43.all (ruleP m) && (u53.all (ruleP m) && (u64.all (ruleP m) && true)))))))) = true := by kernel_rfl
theorem Rf5_5 (q c : Int) (ok : ∀ r ∈ Tf5_5, r.good (qv q c)) : isTrue (@callFF (SVq q c) (@SymT.mk (SVq q c) Tf5_5 ok) Tryz.prog ⟨506, 508, 376⟩ (primOr (prim1 10 primTrue) (primOr (modPrim 4) (segPrim [15, 19, 26, 25] Lf5_5))) 100000 200 4 [sv 0, sv 1, .bool false] m1) = true := by kernel_rfl
theorem Wf5_5 (q c : Int) (hc : Int.emod c 8 = 4) (hk : kN (mN q) = 5) (w : World) :
    Calls Tryz.prog 4 ⟨[.int .i64 q, .int .i64 c, .bool false]⟩ w fun e w' => e = .returned (.bool true) ∧ Below w.heap.size w w' := by
  have hh := chk_at Cf5_5 hk
  simp only [Bool.and_eq_true] at hh
  obtain ⟨h0, h1, h2, h3, h4, h5, h6, h7, _⟩ := hh
  letI SV : SymV := SVq q c
  letI ST : SymT := ⟨Tf5_5, all_good h0⟩
  exact true_call pok (primOr_ok (prim1_ok awake) (primOr_ok (modPrim_ok q c 4 (modC4 q c hc)) (segPrim_ok (l := Lf5_5) (List.forall_mem_cons.2 ⟨q0good q c h1, (List.forall_mem_cons.2 ⟨q25good q c h2, (List.forall_mem_cons.2 ⟨q29good q c h3, (List.forall_mem_cons.2 ⟨q35good q c h4, (List.forall_mem_cons.2 ⟨q43good q c h5, (List.forall_mem_cons.2 ⟨q53good q c h6, (List.forall_mem_cons.2 ⟨q64good q c h7, (fun _ h => by cases h)⟩)⟩)⟩)⟩)⟩)⟩)⟩)))) (Rf5_5 q c (all_good h0))
    (.cons _ _ _ _ (.sym _ _ _ _ rfl) (.cons _ _ _ _ (.sym _ _ _ _ rfl) (.cons _ _ _ _ (.bool _) .nil))) w
def Tf5_6 : List SRule := [.bin .add (iv 1) (sv 5) (sv 6), .bin .quo (sv 6) (iv 14) (iv 6)]
def Lf5_6 : List Seg := [q0, q25, q29, q35, q43, q53, q64]
theorem Cf5_6 : chk kN 6 (fun m => Tf5_6.all (ruleP m) && (u0.all (ruleP m) && (u25.all (ruleP m) && (u29.all (ruleP m) && (u35.all (ruleP m) && (u43.all (ruleP m) && (u53.all (ruleP m) && (u64.all (ruleP m) && true)))))))) = true := by kernel_rfl
theorem Rf5_6 (q c : Int) (ok : ∀ r ∈ Tf5_6, r.good (qv q c)) : isTrue (@callFF (SVq q c) (@SymT.mk (SVq q c) Tf5_6 ok) Tryz.prog ⟨506, 508, 376⟩ (primOr (prim1 10 primTrue) (primOr (modPrim 4) (segPrim [15, 19, 26, 25] Lf5_6))) 100000 200 4 [sv 0, sv 1, .bool false] m1) = true := by kernel_rfl
theorem Wf5_6 (q c : Int) (hc : Int.emod c 8 = 4) (hk : kN (mN q) = 6) (w : World) :
    Calls Tryz.prog 4 ⟨[.int .i64 q, .int .i64 c, .bool false]⟩ w fun e w' => e = .returned (.bool true) ∧ Below w.heap.size w w' := by
  have hh := chk_at Cf5_6 hk
  simp only [Bool.and_eq_true] at hh
  obtain ⟨h0, h1, h2, h3, h4, h5, h6, h7, _⟩ := hh
  letI SV : SymV := SVq q c
  letI ST : SymT := ⟨Tf5_6, all_good h0⟩
  exact true_call pok (primOr_ok (prim1_ok awake) (primOr_ok (modPrim_ok q c 4 (modC4 q c hc)) (segPrim_ok (l := Lf5_6) (List.forall_mem_cons.2 ⟨q0good q c h1, (List.forall_mem_cons.2 ⟨q25good q c h2, (List.forall_mem_cons.2 ⟨q29good q c h3, (List.forall_mem_cons.2 ⟨q35good q c h4, (List.forall_mem_cons.2 ⟨q43good q c h5, (List.forall_mem_cons.2 ⟨q53good q c h6, (List.forall_mem_cons.2 ⟨q64good q c h7, (fun _ h => by cases h)⟩)⟩)⟩)⟩)⟩)⟩)⟩)))) (Rf5_6 q c (all_good h0))
    (.cons _ _ _ _ (.sym _ _ _ _ rfl) (.cons _ _ _ _ (.sym _ _ _ _ rfl) (.cons _ _ _ _ (.bool _) .nil))) w
def Tf5_7 : List SRule := [.bin .add (iv 1) (sv 5) (sv 6), .bin .quo (sv 6) (iv 14) (iv 7)]
def Lf5_7 : List Seg := [q0, q25, q29, q35, q43, q53, q64]
theorem Cf5_7 : chk kN 7 (fun m => Tf5_7.all (ruleP m) && (u0.all (ruleP m) && (u25.all (ruleP m) && (u29.all (ruleP m) && (u35.all (ruleP m) && (u43.all (ruleP m) && (u53.all (ruleP m) && (u64.all (ruleP m) && true)))))))) = true := by kernel_rfl
theorem Rf5_7 (q c : Int) (ok : ∀ r ∈ Tf5_7, r.good (qv q c)) : isTrue (@callFF (SVq q c) (@SymT.mk (SVq q c) Tf5_7 ok) Tryz.prog ⟨506, 508, 376⟩ (primOr (prim1 10 primTrue) (primOr (modPrim 4) (segPrim [15, 19, 26, 25] Lf5_7))) 100000 200 4 [sv 0, sv 1, .bool false] m1) = true := by kernel_rfl
theorem Wf5_7 (q c : Int) (hc : Int.emod c 8 = 4) (hk : kN (mN q) = 7) (w : World) :
    Calls Tryz.prog 4 ⟨[.int .i64 q, .int .i64 c, .bool false]⟩ w fun e w' => e = .returned (.bool true) ∧ Below w.heap.size w w' := by
  have hh := chk_at Cf5_7 hk
  simp only [Bool.and_eq_true] at hh
  obtain ⟨h0, h1, h2, h3, h4, h5, h6, h7, _⟩ := hh
  letI SV : SymV := SVq q c
  letI ST : SymT := ⟨Tf5_7, all_good h0⟩
  exact true_call pok (primOr_ok (prim1_ok awake) (primOr_ok (modPrim_ok q c 4 (modC4 q c hc)) (segPrim_ok (l := Lf5_7) (List.forall_mem_cons.2 ⟨q0good q c h1, (List.forall_mem_cons.2 ⟨q25good q c h2, (List.forall_mem_cons.2 ⟨q29good q c h3, (List.forall_mem_cons.2 ⟨q35good q c h4, (List.forall_mem_cons.2 ⟨q43good q c h5, (List.forall_mem_cons.2 ⟨q53good q c h6, (List.forall_mem_cons.2 ⟨q64good q c h7, (fun _ h => by cases h)⟩)⟩)⟩)⟩)⟩)⟩)⟩)))) (Rf5_7 q c (all_good h0))
    (.cons _ _ _ _ (.sym _ _ _ _ rfl) (.cons _ _ _ _ (.sym _ _ _ _ rfl) (.cons _ _ _ _ (.bool _) .nil))) w
def Tf6_0 : List SRule := [.bin .add (iv 1) (sv 5) (sv 6), .bin .quo (sv 6) (iv 14) (iv 0)]
def Lf6_0 : List Seg := [q0, q25, q29, q35, q43, q53, q65, q66, q67]
theorem Cf6_0 : chk kN 0 (fun m => Tf6_0.all (ruleP m) && (u0.all (ruleP m) && (u25.all (ruleP m) && (u29.all (ruleP m) && (u35.all (ruleP m) && (u43.all (ruleP m) && (u53.all (ruleP m) && (u65.all (ruleP m) && (u66.all (ruleP m) && (u67.all (ruleP m) && true)))))))))) = true := by kernel_rfl
theorem Rf6_0 (q c : Int) (ok : ∀ r ∈ Tf6_0, r.good (qv q c)) : isTrue (@callFF (SVq q c) (@SymT.mk (SVq q c) Tf6_0 ok) Tryz.prog ⟨506, 508, 376⟩ (primOr (prim1 10 primTrue) (primOr (modPrim 5) (segPrim [15, 19, 26, 25] Lf6_0))) 100000 200 4 [sv 0, sv 1, .bool false] m1) = true := by kernel_rfl
theorem Wf6_0 (q c : Int) (hc : Int.emod c 8 = 5) (hk : kN (mN q) = 0) (w : World) :
    Calls Tryz.prog 4 ⟨[.int .i64 q, .int .i64 c, .bool false]⟩ w fun e w' => e = .returned (.bool true) ∧ Below w.heap.size w w' := by
  have hh := chk_at Cf6_0 hk
  simp only [Bool.and_eq_true] at hh
  obtain ⟨h0, h1, h2, h3, h4, h5, h6, h7, h8, h9, _⟩ := hh
  letI SV : SymV := SVq q c
  letI ST : SymT := ⟨Tf6_0, all_good h0⟩
  exact true_call pok (primOr_ok (prim1_ok awake) (primOr_ok (modPrim_ok q c 5 (modC5 q c hc)) (segPrim_ok (l := Lf6_0) (List.forall_mem_cons.2 ⟨q0good q c h1, (List.forall_mem_cons.2 ⟨q25good q c h2, (List.forall_mem_cons.2 ⟨q29good q c h3, (List.forall_mem_cons.2 ⟨q35good q c h4, (List.forall_mem_cons.2 ⟨q43good q c h5, (List.forall_mem_cons.2 ⟨q53good q c h6, (List.forall_mem_cons.2 ⟨q65good q c h7, (List.forall_mem_cons.2 ⟨q66good q c h8, (List.forall_mem_cons.2 ⟨q67good q c h9, (fun _ h => by cases h)⟩)⟩)⟩)⟩)⟩)⟩)⟩)⟩)⟩)))) (Rf6_0 q c (all_good h0))
    (.cons _ _ _ _ (.sym _ _ _ _ rfl) (.cons _ _ _ _ (.sym _ _ _ _ rfl) (.cons _ _ _ _ (.bool _) .nil))) w
def Tf6_1 : List SRule := [.bin .add (iv 1) (sv 5) (sv 6), .bin .quo (sv 6) (iv 14) (iv 1)]
def Lf6_1 : List Seg := [q0, q25, q29, q35, q43, q53, q65, q68, q69]
theorem Cf6_1 : chk kN 1 (fun m => Tf6_1.all (ruleP m) && (u0.all (ruleP m) && (u25.all (ruleP m) && (u29.all (ruleP m) && (u35.all (ruleP m) && (u43.all (ruleP m) && (u53.all (ruleP m) && (u65.all (ruleP m) && (u68.all (ruleP m) && (u69.all (ruleP m) && true)))))))))) = true := by kernel_rfl
theorem Rf6_1 (q c : Int) (ok : ∀ r ∈ Tf6_1, r.good (qv q c)) : isTrue (@callFF (SVq q c) (@SymT.mk (SVq q c) Tf6_1 ok) Tryz.prog ⟨506, 508, 376⟩ (primOr (prim1 10 primTrue) (primOr (modPrim 5) (segPrim [15, 19, 26, 25] Lf6_1))) 100000 200 4 [sv 0, sv 1, .bool false] m1) = true := by kernel_rfl
theorem Wf6_1 (q c : Int) (hc : Int.emod c 8 = 5) (hk : kN (mN q) = 1) (w : World) :
    Calls Tryz.prog 4 ⟨[.int .i64 q, .int .i64 c, .bool false]⟩ w fun e w' => e = .returned (.bool true) ∧ Below w.heap.size w w' := by
  have hh := chk_at Cf6_1 hk
  simp only [Bool.and_eq_true] at hh
  obtain ⟨h0, h1, h2, h3, h4, h5, h6, h7, h8, h9, _⟩ := hh
  letI SV : SymV := SVq q c
  letI ST : SymT := ⟨Tf6_1, all_good h0⟩
  exact true_call pok (primOr_ok (prim1_ok awake) (primOr_ok (modPrim_ok q c 5 (modC5 q c hc)) (segPrim_ok (l := Lf6_1) (List.forall_mem_cons.2 ⟨q0good q c h1, (List.forall_mem_cons.2 ⟨q25good q c h2, (List.forall_mem_cons.2 ⟨q29good q c h3, (List.forall_mem_cons.2 ⟨q35good q c h4, (List.forall_mem_cons.2 ⟨q43good q c h5, (List.forall_mem_cons.2 ⟨q53good q c h6, (List.forall_mem_cons.2 ⟨q65good q c h7, (List.forall_mem_cons.2 ⟨q68good q c h8, (List.forall_mem_cons.2 ⟨q69good q c h9, (fun _ h => by cases h)⟩)⟩)⟩)⟩)⟩)⟩)⟩)⟩)⟩)))) (Rf6_1 q c (all_good h0))
    (.cons _ _ _ _ (.sym _ _ _ _ rfl) (.cons _ _ _ _ (.sym _ _ _ _ rfl) (.cons _ _ _ _ (.bool _) .nil))) w
def Tf6_2 : List SRule := [.bin .add (iv 1) (sv 5) (sv 6), .bin .quo (sv 6) (iv 14) (iv 2)]
def Lf6_2 : List Seg := [q0, q25, q29, q35, q43, q53, q65, q70, q71]
theorem Cf6_2 : chk kN 2 (fun m => Tf6_2.all (ruleP m) && (u0.all (ruleP m) && (u25.all (ruleP m) && (u29.all (ruleP m) && (u35.all (ruleP m) && (u43.all (ruleP m) && (u53.all (ruleP m) && (u65.all (ruleP m) && (u70.all (ruleP m) && (u71.all (ruleP m) && true)))))))))) = true := by kernel_rfl
theorem Rf6_2 (q c : Int) (ok : ∀ r ∈ Tf6_2, r.good (qv q c)) : isTrue (@callFF (SVq q c) (@SymT.mk (SVq q c) Tf6_2 ok) Tryz.prog ⟨506, 508, 376⟩ (primOr (prim1 10 primTrue) (primOr (modPrim 5) (segPrim [15, 19, 26, 25] Lf6_2))) 100000 200 4 [sv 0, sv 1, .bool false] m1) = true := by kernel_rfl
theorem Wf6_2 (q c : Int) (hc : Int.emod c 8 = 5) (hk : kN (mN q) = 2) (w : World) :
    Calls Tryz.prog 4 ⟨[.int .i64 q, .int .i64 c, .bool false]⟩ w fun e w' => e = .returned (.bool true) ∧ Below w.heap.size w w' := by
  have hh := chk_at Cf6_2 hk
  simp only [Bool.and_eq_true] at hh
  obtain ⟨h0, h1, h2, h3, h4, h5, h6, h7, h8, h9, _⟩ := hh
  letI SV : SymV := SVq q c
  letI ST : SymT := ⟨Tf6_2, all_good h0⟩
  exact true_call pok (primOr_ok (prim1_ok awake) (primOr_ok (modPrim_ok q c 5 (modC5 q c hc)) (segPrim_ok (l := Lf6_2) (List.forall_mem_cons.2 ⟨q0good q c h1, (List.forall_mem_cons.2 ⟨q25good q c h2, (List.forall_mem_cons.2 ⟨q29good q c h3, (List.forall_mem_cons.2 ⟨q35good q c h4, (List.forall_mem_cons.2 ⟨q43good q c h5, (List.forall_mem_cons.2 ⟨q53good q c h6, (List.forall_mem_cons.2 ⟨q65good q c h7, (List.forall_mem_cons.2 ⟨q70good q c h8, (List.forall_mem_cons.2 ⟨q71good q c h9, (fun _ h => by cases h)⟩)⟩)⟩)⟩)⟩)⟩)⟩)⟩)⟩)))) (Rf6_2 q c (all_good h0))
    (.cons _ _ _ _ (.sym _ _ _ _ rfl) (.cons _ _ _ _ (.sym _ _ _ _ rfl) (.cons _ _ _ _ (.bool _) .nil))) w
def Tf6_3 : List SRule := [.bin .add (iv 1) (sv 5) (sv 6), .bin .quo (sv 6) (iv 14) (iv 3)]
def Lf6_3 : List Seg := [q0, q25, q29, q35, q43, q53, q65, q72, q73]
theorem Cf6_3 : chk kN 3 (fun m => Tf6_3.all (ruleP m) && (u0.all (ruleP m) && (u25.all (ruleP m) && (u29.all (ruleP m) && (u35.all (ruleP m) && (u43.all (ruleP m) && (u53.all (ruleP m) && (u65.all (ruleP m) && (u72.all (ruleP m) && (u73.all (ruleP m) && true)))))))))) = true := by kernel_rfl
theorem Rf6_3 (q c : Int) (ok : ∀ r ∈ Tf6_3, r.good (qv q c)) : isTrue (@callFF (SVq q c) (@SymT.mk (SVq q c) Tf6_3 ok) Tryz.prog ⟨506, 508, 376⟩ (primOr (prim1 10 primTrue) (primOr (modPrim 5) (segPrim [15, 19, 26, 25] Lf6_3))) 100000 200 4 [sv 0, sv 1, .bool false] m1) = true := by kernel_rfl
theorem Wf6_3 (q c : Int) (hc : Int.emod c 8 = 5) (hk : kN (mN q) = 3) (w : World) :
    Calls Tryz.prog 4 ⟨[.int .i64 q, .int .i64 c, .bool false]⟩ w fun e w' => e = .returned (.bool true) ∧ Below w.heap.size w w' := by
  have hh := chk_at Cf6_3 hk
  simp only [Bool.and_eq_true] at hh
  obtain ⟨h0, h1, h2, h3, h4, h5, h6, h7, h8, h9, _⟩ := hh
  letI SV : SymV := SVq q c
  letI ST : SymT := ⟨Tf6_3, all_good h0⟩
  exact true_call pok (primOr_ok (prim1_ok awake) (primOr_ok (modPrim_ok q c 5 (modC5 q c hc)) (segPrim_ok (l := Lf6_3) (List.forall_mem_cons.2 ⟨q0good q c h1, (List.forall_mem_cons.2 ⟨q25good q c h2, (List.forall_mem_cons.2 ⟨q29good q c h3, (List.forall_mem_cons.2 ⟨q35good q c h4, (List.forall_mem_cons.2 ⟨q43good q c h5, (List.forall_mem_cons.2 ⟨q53good q c h6, (List.forall_mem_cons.2 ⟨q65good q c h7, (List.forall_mem_cons.2 ⟨q72good q c h8, (List.forall_mem_cons.2 ⟨q73good q c h9, (fun _ h => by cases h)⟩)⟩)⟩)⟩)⟩)⟩)⟩)⟩)⟩)))) (Rf6_3 q c (all_good h0))
    (.cons _ _ _ _ (.sym _ _ _ _ rfl) (.cons _ _ _ _ (.sym _ _ _ _ rfl) (.cons _ _ _ _ (.bool _) .nil))) w
def Tf6_4 : List SRule := [.bin .add (iv 1) (sv 5) (sv 6), .bin .quo (sv 6) (iv 14) (iv 4)]
def Lf6_4 : List Seg := [q0, q25, q29, q35, q43, q53, q65, q74, q75]
theorem Cf6_4 : chk kN 4 (fun m => Tf6_4.all (ruleP m) && (u0.all (ruleP m) && (u25.all (ruleP m) && (u29.all (ruleP m) && (u35.all (ruleP m) && (u43.all (ruleP m) && (u53.all (ruleP m) && (u65.all (ruleP m) && (u74.all (ruleP m) && (u75.all (ruleP m) && true)))))))))) = true := by kernel_rfl
theorem Rf6_4 (q c : Int) (ok : ∀ r ∈ Tf6_4, r.good (qv q c)) : isTrue (@callFF (SVq q c) (@SymT.mk (SVq q c) Tf6_4 ok) Tryz.prog ⟨506, 508, 376⟩ (primOr (prim1 10 primTrue) (primOr (modPrim 5) (segPrim [15, 19, 26, 25] Lf6_4))) 100000 200 4 [sv 0, sv 1, .bool false] m1) = true := by kernel_rfl
theorem Wf6_4 (q c : Int) (hc : Int.emod c 8 = 5) (hk : kN (mN q) = 4) (w : World) :
    Calls Tryz.prog 4 ⟨[.int .i64 q, .int .i64 c, .bool false]⟩ w fun e w' => e = .returned (.bool true) ∧ Below w.heap.size w w' := by
  have hh := chk_at Cf6_4 hk
  simp only [Bool.and_eq_true] at hh
  obtain ⟨h0, h1, h2, h3, h4, h5, h6, h7, h8, h9, _⟩ := hh
  letI SV : SymV := SVq q c
  letI ST : SymT := ⟨Tf6_4, all_good h0⟩
  exact true_call pok (primOr_ok (prim1_ok awake) (primOr_ok (modPrim_ok q c 5 (modC5 q c hc)) (segPrim_ok (l := Lf6_4) (List.forall_mem_cons.2 ⟨q0good q c h1, (List.forall_mem_cons.2 ⟨q25good q c h2, (List.forall_mem_cons.2 ⟨q29good q c h3, (List.forall_mem_cons.2 ⟨q35good q c h4, (List.forall_mem_cons.2 ⟨q43good q c h5, (List.forall_mem_cons.2 ⟨q53good q c h6, (List.forall_mem_cons.2 ⟨q65good q c h7, (List.forall_mem_cons.2 ⟨q74good q c h8, (List.forall_mem_cons.2 ⟨q75good q c h9, (fun _ h => by cases h)⟩)⟩)⟩)⟩)⟩)⟩)⟩)⟩)⟩)))) (Rf6_4 q c (all_good h0))
    (.cons _ _ _ _ (.sym _ _ _ _ rfl) (.cons _ _ _ _ (.sym _ _ _ _ rfl) (.cons _ _ _ _ (.bool _) .nil))) w
def Tf6_5 : List SRule := [.bin .add (iv 1) (sv 5) (sv 6), .bin .quo (sv 6) (iv 14) (iv 5)]
def Lf6_5 : List Seg := [q0, q25, q29, q35, q43, q53, q65, q76, q77]
theorem Cf6_5 : chk kN 5 (fun m => Tf6_5.all (ruleP m) && (u0.all (ruleP m) && (u25.all (ruleP m) && (u29.all (ruleP m) && (u35.all (ruleP m) && (u43.all (ruleP m) && (u53.all (ruleP m) && (u65.all (ruleP m) && (u76.all (ruleP m) && (u77.all (ruleP m) && true)))))))))) = true := by kernel_rfl
theorem Rf6_5 (q c : Int) (ok : ∀ r ∈ Tf6_5, r.good (qv q c)) : isTrue (@callFF (SVq q c) (@SymT.mk (SVq q c) Tf6_5 ok) Tryz.prog ⟨506, 508, 376⟩ (primOr (prim1 10 primTrue) (primOr (modPrim 5) (segPrim [15, 19, 26, 25] Lf6_5))) 100000 200 4 [sv 0, sv 1, .bool false] m1) = true := by kernel_rfl
theorem Wf6_5 (q c : Int) (hc : Int.emod c 8 = 5) (hk : kN (mN q) = 5) (w : World) :
    Calls Tryz.prog 4 ⟨[.int .i64 q, .int .i64 c, .bool false]⟩ w fun e w' => e = .returned (.bool true) ∧ Below w.heap.size w w' := by
  have hh := chk_at Cf6_5 hk
  simp only [Bool.and_eq_true] at hh
  obtain ⟨h0, h1, h2, h3, h4, h5, h6, h7, h8, h9, _⟩ := hh
  letI SV : SymV := SVq q c
  letI ST : SymT := ⟨Tf6_5, all_good h0⟩
  exact true_call pok (primOr_ok (prim1_ok awake) (primOr_ok (modPrim_ok q c 5 (modC5 q c hc)) (segPrim_ok (l := Lf6_5) (List.forall_mem_cons.2 ⟨q0good q c h1, (List.forall_mem_cons.2 ⟨q25good q c h2, (List.forall_mem_cons.2 ⟨q29good q c h3, (List.forall_mem_cons.2 ⟨q35good q c h4, (List.forall_mem_cons.2 ⟨q43good q c h5, (List.forall_mem_cons.2 ⟨q53good q c h6, (List.forall_mem_cons.2 ⟨q65good q c h7, (List.forall_mem_cons.2 ⟨q76good q c h8, (List.forall_mem_cons.2 ⟨q77good q c h9, (fun _ h => by cases h)⟩)⟩)⟩)⟩)⟩)⟩)⟩)⟩)⟩)))) (Rf6_5 q c (all_good h0))
    (.cons _ _ _ _ (.sym _ _ _ _ rfl) (.cons _ _ _ _ (.sym _ _ _ _ rfl) (.cons _ _ _ _ (.bool _) .nil))) w
def Tf6_6 : List SRule := [.bin .add (iv 1) (sv 5) (sv 6), .bin .quo (sv 6) (iv 14) (iv 6)]
def Lf6_6 : List Seg := [q0, q25, q29, q35, q43, q53, q65, q78]
theorem Cf6_6 : chk kN 6 (fun m => Tf6_6.all (ruleP m) && (u0.all (ruleP m) && (u25.all (ruleP m) && (u29.all (ruleP m) && (u35.all (ruleP m) && (u43.all (ruleP m) && (u53.all (ruleP m) && (u65.all (ruleP m) && (u78.all (ruleP m) && true))))))))) = true := by kernel_rfl
theorem Rf6_6 (q c : Int) (ok : ∀ r ∈ Tf6_6, r.good (qv q c)) : isTrue (@callFF (SVq q c) (@SymT.mk (SVq q c) Tf6_6 ok) Tryz.prog ⟨506, 508, 376⟩ (primOr (prim1 10 primTrue) (primOr (modPrim 5) (segPrim [15, 19, 26, 25] Lf6_6))) 100000 200 4 [sv 0, sv 1, .bool false] m1) = true := by kernel_rfl
theorem Wf6_6 (q c : Int) (hc : Int.emod c 8 = 5) (hk : kN (mN q) = 6) (w : World) :
    Calls Tryz.prog 4 ⟨[.int .i64 q, .int .i64 c, .bool false]⟩ w fun e w' => e = .returned (.bool true) ∧ Below w.heap.size w w' := by
  have hh := chk_at Cf6_6 hk
  simp only [Bool.and_eq_true] at hh
  obtain ⟨h0, h1, h2, h3, h4, h5, h6, h7, h8, _⟩ := hh
  letI SV : SymV := SVq q c
  letI ST : SymT := ⟨Tf6_6, all_good h0⟩
  exact true_call pok (primOr_ok (prim1_ok awake) (primOr_ok (modPrim_ok q c 5 (modC5 q c hc)) (segPrim_ok (l := Lf6_6) (List.forall_mem_cons.2 ⟨q0good q c h1, (List.forall_mem_cons.2 ⟨q25good q c h2, (List.forall_mem_cons.2 ⟨q29good q c h3, (List.forall_mem_cons.2 ⟨q35good q c h4, (List.forall_mem_cons.2 ⟨q43good q c h5, (List.forall_mem_cons.2 ⟨q53good q c h6, (List.forall_mem_cons.2 ⟨q65good q c h7, (List.forall_mem_cons.2 ⟨q78good q c h8, (fun _ h => by cases h)⟩)⟩)⟩)⟩)⟩)⟩)⟩)⟩)))) (Rf6_6 q c (all_good h0))
    (.cons _ _ _ _ (.sym _ _ _ _ rfl) (.cons _ _ _ _ (.sym _ _ _ _ rfl) (.cons _ _ _ _ (.bool _) .nil))) w
def Tf6_7 : List SRule := [.bin .add (iv 1) (sv 5) (sv 6), .bin .quo (sv 6) (iv 14) (iv 7)]
def Lf6_7 : List Seg := [q0, q25, q29, q35, q43, q53, q65, q78]
theorem Cf6_7 : chk kN 7 (fun m => Tf6_7.all (ruleP m) && (u0.all (ruleP m) && (u25.all (ruleP m) && (u29.all (ruleP m) && (u35.all (ruleP m) && (u43.all (ruleP m) && (u53.all (ruleP m) && (u65.all (ruleP m) && (u78.all (ruleP m) && true))))))))) = true := by kernel_rfl
theorem Rf6_7 (q c : Int) (ok : ∀ r ∈ Tf6_7, r.good (qv q c)) : isTrue (@callFF (SVq q c) (@SymT.mk (SVq q c) Tf6_7 ok) Tryz.prog ⟨506, 508, 376⟩ (primOr (prim1 10 primTrue) (primOr (modPrim 5) (segPrim [15, 19, 26, 25] Lf6_7))) 100000 200 4 [sv 0, sv 1, .bool false] m1) = true := by kernel_rfl
theorem Wf6_7 (q c : Int) (hc : Int.emod c 8 = 5) (hk : kN (mN q) = 7) (w : World) :
    Calls Tryz.prog 4 ⟨[.int .i64 q, .int .i64 c, .bool false]⟩ w fun e w' => e = .returned (.bool true) ∧ Below w.heap.size w w' := by
  have hh := chk_at Cf6_7 hk
  simp only [Bool.and_eq_true] at hh
  obtain ⟨h0, h1, h2, h3, h4, h5, h6, h7, h8, _⟩ := hh
  letI SV : SymV := SVq q c
  letI ST : SymT := ⟨Tf6_7, all_good h0⟩
  exact true_call pok (primOr_ok (prim1_ok awake) (primOr_ok (modPrim_ok q c 5 (modC5 q c hc)) (segPrim_ok (l := Lf6_7) (List.forall_mem_cons.2 ⟨q0good q c h1, (List.forall_mem_cons.2 ⟨q25good q c h2, (List.forall_mem_cons.2 ⟨q29good q c h3, (List.forall_mem_cons.2 ⟨q35good q c h4, (List.forall_mem_cons.2 ⟨q43good q c h5, (List.forall_mem_cons.2 ⟨q53good q c h6, (List.forall_mem_cons.2 ⟨q65good q c h7, (List.forall_mem_cons.2 ⟨q78good q c h8, (fun _ h => by cases h)⟩)⟩)⟩)⟩)⟩)⟩)⟩)⟩)))) (Rf6_7 q c (all_good h0))
    (.cons _ _ _ _ (.sym _ _ _ _ rfl) (.cons _ _ _ _ (.sym _ _ _ _ rfl) (.cons _ _ _ _ (.bool _) .nil))) w
def Tf7_0 : List SRule := [.bin .add (iv 1) (sv 5) (sv 6), .bin .quo (sv 6) (iv 14) (iv 0)]
def Lf7_0 : List Seg := [q0, q25, q29, q35, q43, q53, q65, q79, q80, q81]
theorem Cf7_0 : chk kN 0 (fun m => Tf7_0.all (ruleP m) && (u0.all (ruleP m) && (u25.all (ruleP m) && (u29.all (ruleP m) && (u35.all (ruleP m) && (u43.all (ruleP m) && (u53.all (ruleP m) && (u65.all (ruleP m) && (u79.all (ruleP m) && (u80.all (ruleP m) && (u81.all (ruleP m) && true))))))))))) = true := by kernel_rfl
theorem Rf7_0 (q c : Int) (ok : ∀ r ∈ Tf7_0, r.good (qv q c)) : isTrue (@callFF (SVq q c) (@SymT.mk (SVq q c) Tf7_0 ok) Tryz.prog ⟨506, 508, 376⟩ (primOr (prim1 10 primTrue) (primOr (modPrim 6) (segPrim [15, 19, 26, 25] Lf7_0))) 100000 200 4 [sv 0, sv 1, .bool false] m1) = true := by kernel_rfl
theorem Wf7_0 (q c : Int) (hc : Int.emod c 8 = 6) (hk : kN (mN q) = 0) (w : World) :
    Calls Tryz.prog 4 ⟨[.int .i64 q, .int .i64 c, .bool false]⟩ w fun e w' => e = .returned (.bool true) ∧ Below w.heap.size w w' := by
  have hh := chk_at Cf7_0 hk
  simp only [Bool.and_eq_true] at hh
  obtain ⟨h0, h1, h2, h3, h4, h5, h6, h7, h8, h9, h10, _⟩ := hh
  letI SV : SymV := SVq q c
  letI ST : SymT := ⟨Tf7_0, all_good h0⟩
  exact true_call pok (primOr_ok (prim1_ok awake) (primOr_ok (modPrim_ok q c 6 (modC6 q c hc)) (segPrim_ok (l := Lf7_0) (List.forall_mem_cons.2 ⟨q0good q c h1, (List.forall_mem_cons.2 ⟨q25good q c h2, (List.forall_mem_cons.2 ⟨q29good q c h3, (List.forall_mem_cons.2 ⟨q35good q c h4, (List.forall_mem_cons.2 ⟨q43good q c h5, (List.forall_mem_cons.2 ⟨q53good q c h6, (List.forall_mem_cons.2 ⟨q65good q c h7, (List.forall_mem_cons.2 ⟨q79good q c h8, (List.forall_mem_cons.2 ⟨q80good q c h9, (List.forall_mem_cons.2 ⟨q81good q c h10, (fun _ h => by cases h)⟩)⟩)⟩)⟩)⟩)⟩)⟩)⟩)⟩)⟩)))) (Rf7_0 q c (all_good h0))
    (.cons _ _ _ _ (.sym _ _ _ _ rfl) (.cons _ _ _ _ (.sym _ _ _ _ rfl) (.cons _ _ _ _ (.bool _) .nil))) w
def Tf7_1 : List SRule := [.bin .add (iv 1) (sv 5) (sv 6), .bin .quo (sv 6) (iv 14) (iv 1)]
def Lf7_1 : List Seg := [q0, q25, q29, q35, q43, q53, q65, q79, q82, q83]
theorem Cf7_1 : chk kN 1 (fun m => Tf7_1.all (ruleP m) && (u0.all (ruleP m) && (u25.all (ruleP m) && (u29.all (ruleP m) && (u35.all (ruleP m) && (u43.all (ruleP m) && (u53.all (ruleP m) && (u65.all (ruleP m) && (u79.all (ruleP m) && (u82.all (ruleP m) && (u83.all (ruleP m) && true))))))))))) = true := by kernel_rfl
theorem Rf7_1 (q c : Int) (ok : ∀ r ∈ Tf7_1, r.good (qv q c)) : isTrue (@callFF (SVq q c) (@SymT.mk (SVq q c) Tf7_1 ok) Tryz.prog ⟨506, 508, 376⟩ (primOr (prim1 10 primTrue) (primOr (modPrim 6) (segPrim [15, 19, 26, 25] Lf7_1))) 100000 200 4 [sv 0, sv 1, .bool false] m1) = true := by kernel_rfl
theorem Wf7_1 (q c : Int) (hc : Int.emod c 8 = 6) (hk : kN (mN q) = 1) (w : World) :
    Calls Tryz.prog 4 ⟨[.int .i64 q, .int .i64 c, .bool false]⟩ w fun e w' => e = .returned (.bool true) ∧ Below w.heap.size w w' := by
  have hh := chk_at Cf7_1 hk
  simp only [Bool.and_eq_true] at hh
  obtain ⟨h0, h1, h2, h3, h4, h5, h6, h7, h8, h9, h10, _⟩ := hh
  letI SV : SymV := SVq q c
  letI ST : SymT := ⟨Tf7_1, all_good h0⟩
  exact true_call pok (primOr_ok (prim1_ok awake) (primOr_ok (modPrim_ok q c 6 (modC6 q c hc)) (segPrim_ok (l := Lf7_1) (List.forall_mem_cons.2 ⟨q0good q c h1, (List.forall_mem_cons.2 ⟨q25good q c h2, (List.forall_mem_cons.2 ⟨q29good q c h3, (List.forall_mem_cons.2 ⟨q35good q c h4, (List.forall_mem_cons.2 ⟨q43good q c h5, (List.forall_mem_cons.2 ⟨q53good q c h6, (List.forall_mem_cons.2 ⟨q65good q c h7, (List.forall_mem_cons.2 ⟨q79good q c h8, (List.forall_mem_cons.2 ⟨q82good q c h9, (List.forall_mem_cons.2 ⟨q83good q c h10, (fun _ h => by cases h)⟩)⟩)⟩)⟩)⟩)⟩)⟩)⟩)⟩)⟩)))) (Rf7_1 q c (all_good h0))
    (.cons _ _ _ _ (.sym _ _ _ _ rfl) (.cons _ _ _ _ (.sym _ _ _ _ rfl) (.cons _ _ _ _ (.bool _) .nil))) w
def Tf7_2 : List SRule := [.bin .add (iv 1) (sv 5) (sv 6), .bin .quo (sv 6) (iv 14) (iv 2)]
def Lf7_2 : List Seg := [q0, q25, q29, q35, q43, q53, q65, q79, q84, q85]
theorem Cf7_2 : chk kN 2 (fun m => Tf7_2.all (ruleP m) && (u0.all (ruleP m) && (u25.all (ruleP m) && (u29.all (ruleP m) && (u35.all (ruleP m) && (u43.all (ruleP m) && (u53.all (ruleP m) && (u65.all (ruleP m) && (u79.all (ruleP m) && (u84.all (ruleP m) && (u85.all (ruleP m) && true))))))))))) = true := by kernel_rfl
theorem Rf7_2 (q c : Int) (ok : ∀ r ∈ Tf7_2, r.good (qv q c)) : isTrue (@callFF (SVq q c) (@SymT.mk (SVq q c) Tf7_2 ok) Tryz.prog ⟨506, 508, 376⟩ (primOr (prim1 10 primTrue) (primOr (modPrim 6) (segPrim [15, 19, 26, 25] Lf7_2))) 100000 200 4 [sv 0, sv 1, .bool false] m1) = true := by kernel_rfl
theorem Wf7_2 (q c : Int) (hc : Int.emod c 8 = 6) (hk : kN (mN q) = 2) (w : World) :
    Calls Tryz.prog 4 ⟨[.int .i64 q, .int .i64 c, .bool false]⟩ w fun e w' => e = .returned (.bool true) ∧ Below w.heap.size w w' := by
  have hh := chk_at Cf7_2 hk
  simp only [Bool.and_eq_true] at hh
  obtain ⟨h0, h1, h2, h3, h4, h5, h6, h7, h8, h9, h10, _⟩ := hh
  letI SV : SymV := SVq q c
  letI ST : SymT := ⟨Tf7_2, all_good h0⟩
  exact true_call pok (primOr_ok (prim1_ok awake) (primOr_ok (modPrim_ok q c 6 (modC6 q c hc)) (segPrim_ok (l := Lf7_2) (List.forall_mem_cons.2 ⟨q0good q c h1, (List.forall_mem_cons.2 ⟨q25good q c h2, (List.forall_mem_cons.2 ⟨q29good q c h3, (List.forall_mem_cons.2 ⟨q35good q c h4, (List.forall_mem_cons.2 ⟨q43good q c h5, (List.forall_mem_cons.2 ⟨q53good q c h6, (List.forall_mem_cons.2 ⟨q65good q c h7, (List.forall_mem_cons.2 ⟨q79good q c h8, (List.forall_mem_cons.2 ⟨q84good q c h9, (List.forall_mem_cons.2 ⟨q85good q c h10, (fun _ h => by cases h)⟩)⟩)⟩)⟩)⟩)⟩)⟩)⟩)⟩)⟩)))) (Rf7_2 q c (all_good h0))
    (.cons _ _ _ _ (.sym _ _ _ _ rfl) (.cons _ _ _ _ (.sym _ _ _ _ rfl) (.cons _ _ _ _ (.bool _) .nil))) w
def Tf7_3 : List SRule := [.bin .add (iv 1) (sv 5) (sv 6), .bin .quo (sv 6) (iv 14) (iv 3)]
def Lf7_3 : List Seg := [q0, q25, q29, q35, q43, q53, q65, q79, q86, q87]
theorem Cf7_3 : chk kN 3 (fun m => Tf7_3.all (ruleP m) && (u0.all (ruleP m) && (u25.all (ruleP m) && (u29.all (ruleP m) && (u35.all (ruleP m) && (u43.all (ruleP m) && (u53.all (ruleP m) && (u65.all (ruleP m) && (u79.all (ruleP m) && (u86.all (ruleP m) && (u87.all (ruleP m) && true))))))))))) = true := by kernel_rfl
theorem Rf7_3 (q c : Int) (ok : ∀ r ∈ Tf7_3, r.good (qv q c)) : isTrue (@callFF (SVq q c) (@SymT.mk (SVq q c) Tf7_3 ok) Tryz.prog ⟨506, 508, 376⟩ (primOr (prim1 10 primTrue) (primOr (modPrim 6) (segPrim [15, 19, 26, 25] Lf7_3))) 100000 200 4 [sv 0, sv 1, .bool false] m1) = true := by kernel_rfl
theorem Wf7_3 (q c : Int) (hc : Int.emod c 8 = 6) (hk : kN (mN q) = 3) (w : World) :
    Calls Tryz.prog 4 ⟨[.int .i64 q, .int .i64 c, .bool false]⟩ w fun e w' => e = .returned (.bool true) ∧ Below w.heap.size w w' := by
  have hh := chk_at Cf7_3 hk
  simp only [Bool.and_eq_true] at hh
  obtain ⟨h0, h1, h2, h3, h4, h5, h6, h7, h8, h9, h10, _⟩ := hh
  letI SV : SymV := SVq q c
  letI ST : SymT := ⟨Tf7_3, all_good h0⟩
  exact true_call pok (primOr_ok (prim1_ok awake) (primOr_ok (modPrim_ok q c 6 (modC6 q c hc)) (segPrim_ok (l := Lf7_3) (List.forall_mem_cons.2 ⟨q0good q c h1, (List.forall_mem_cons.2 ⟨q25good q c h2, (List.forall_mem_cons.2 ⟨q29good q c h3, (List.forall_mem_cons.2 ⟨q35good q c h4, (List.forall_mem_cons.2 ⟨q43good q c h5, (List.forall_mem_cons.2 ⟨q53good q c h6, (List.forall_mem_cons.2 ⟨q65good q c h7, (List.forall_mem_cons.2 ⟨q79good q c h8, (List.forall_mem_cons.2 ⟨q86good q c h9, (List.forall_mem_cons.2 ⟨q87good q c h10, (fun _ h => by cases h)⟩)⟩)⟩)⟩)⟩)⟩)⟩)⟩)⟩)⟩)))) (Rf7_3 q c (all_good h0))
    (.cons _ _ _ _ (.sym _ _ _ _ rfl) (.cons _ _ _ _ (.sym _ _ _ _ rfl) (.cons _ _ _ _ (.bool _) .nil))) w
def Tf7_4 : List SRule := [.bin .add (iv 1) (sv 5) (sv 6), .bin .quo (sv 6) (iv 14) (iv 4)]
def Lf7_4 : List Seg := [q0, q25, q29, q35, q43, q53, q65, q79, q88, q89]
theorem Cf7_4 : chk kN 4 (fun m => Tf7_4.all (ruleP m) && (u0.all (ruleP m) && (u25.all (ruleP m) && (u29.all (ruleP m) && (u35.all (ruleP m) && (u43.all (ruleP m) && (u53.all (ruleP m) && (u65.all (ruleP m) && (u79.all (ruleP m) && (u88.all (ruleP m) && (u89.all (ruleP m) && true))))))))))) = true := by kernel_rfl
theorem Rf7_4 (q c : Int) (ok : ∀ r ∈ Tf7_4, r.good (qv q c)) : isTrue (@callFF (SVq q c) (@SymT.mk (SVq q c) Tf7_4 ok) Tryz.prog ⟨506, 508, 376⟩ (primOr (prim1 10 primTrue) (primOr (modPrim 6) (segPrim [15, 19, 26, 25] Lf7_4))) 100000 200 4 [sv 0, sv 1, .bool false] m1) = true := by kernel_rfl
theorem Wf7_4 (q c : Int) (hc : Int.emod c 8 = 6) (hk : kN (mN q) = 4) (w : World) :
    Calls Tryz.prog 4 ⟨[.int .i64 q, .int .i64 c, .bool false]⟩ w fun e w' => e = .returned (.bool true) ∧ Below w.heap.size w w' := by
  have hh := chk_at Cf7_4 hk
  simp only [Bool.and_eq_true] at hh
  obtain ⟨h0, h1, h2, h3, h4, h5, h6, h7, h8, h9, h10, _⟩ := hh
  letI SV : SymV := SVq q c
  letI ST : SymT := ⟨Tf7_4, all_good h0⟩
  exact true_call pok (primOr_ok (prim1_ok awake) (primOr_ok (modPrim_ok q c 6 (modC6 q c hc)) (segPrim_ok (l := Lf7_4) (List.forall_mem_cons.2 ⟨q0good q c h1, (List.forall_mem_cons.2 ⟨q25good q c h2, (List.forall_mem_cons.2 ⟨q29good q c h3, (List.forall_mem_cons.2 ⟨q35good q c h4, (List.forall_mem_cons.2 ⟨q43good q c h5, (List.forall_mem_cons.2 ⟨q53good q c h6, (List.forall_mem_cons.2 ⟨q65good q c h7, (List.forall_mem_cons.2 ⟨q79good q c h8, (List.forall_mem_cons.2 ⟨q88good q c h9, (List.forall_mem_cons.2 ⟨q89good q c h10, (fun _ h => by cases h)⟩)⟩)⟩)⟩)⟩)⟩)⟩)⟩)⟩)⟩)))) (Rf7_4 q c (all_good h0))
    (.cons _ _ _ _ (.sym _ _ _ _ rfl) (.cons _ _ _ _ (.sym _ _ _ _ rfl) (.cons _ _ _ _ (.bool _) .nil))) w
def Tf7_5 : List SRule := [.bin .add (iv 1) (sv 5) (sv 6), .bin .quo (sv 6) (iv 14) (iv 5)]
def Lf7_5 : List Seg := [q0, q25, q29, q35, q43, q53, q65, q79, q90, q91]
theorem Cf7_5 : chk kN 5 (fun m => Tf7_5.all (ruleP m) && (u0.all (ruleP m) && (u25.all (ruleP m) && (u29.all (ruleP m) && (u35.all (ruleP m) && (u43.all (ruleP m) && (u53.all (ruleP m) && (u65.all (ruleP m) && (u79.all (ruleP m) && (u90.all (ruleP m) && (u91.all (ruleP m) && true))))))))))) = true := by kernel_rfl
theorem Rf7_5 (q c : Int) (ok : ∀ r ∈ Tf7_5, r.good (qv q c)) : isTrue (@callFF (SVq q c) (@SymT.mk (SVq q c) Tf7_5 ok) Tryz.prog ⟨506, 508, 376⟩ (primOr (prim1 10 primTrue) (primOr (modPrim 6) (segPrim [15, 19, 26, 25] Lf7_5))) 100000 200 4 [sv 0, sv 1, .bool false] m1) = true := by kernel_rfl
theorem Wf7_5 (q c : Int) (hc : Int.emod c 8 = 6) (hk : kN (mN q) = 5) (w : World) :
    Calls Tryz.prog 4 ⟨[.int .i64 q, .int .i64 c, .bool false]⟩ w fun e w' => e = .returned (.bool true) ∧ Below w.heap.size w w' := by
  have hh := chk_at Cf7_5 hk
  simp only [Bool.and_eq_true] at hh
  obtain ⟨h0, h1, h2, h3, h4, h5, h6, h7, h8, h9, h10, _⟩ := hh
  letI SV : SymV := SVq q c
  letI ST : SymT := ⟨Tf7_5, all_good h0⟩
  exact true_call pok (primOr_ok (prim1_ok awake) (primOr_ok (modPrim_ok q c 6 (modC6 q c hc)) (segPrim_ok (l := Lf7_5) (List.forall_mem_cons.2 ⟨q0good q c h1, (List.forall_mem_cons.2 ⟨q25good q c h2, (List.forall_mem_cons.2 ⟨q29good q c h3, (List.forall_mem_cons.2 ⟨q35good q c h4, (List.forall_mem_cons.2 ⟨q43good q c h5, (List.forall_mem_cons.2 ⟨q53good q c h6, (List.forall_mem_cons.2 ⟨q65good q c h7, (List.forall_mem_cons.2 ⟨q79good q c h8, (List.forall_mem_cons.2 ⟨q90good q c h9, (List.forall_mem_cons.2 ⟨q91good q c h10, (fun _ h => by cases h)⟩)⟩)⟩)⟩)⟩)⟩)⟩)⟩)⟩)⟩)))) (Rf7_5 q c (all_good h0))
    (.cons _ _ _ _ (.sym _ _ _ _ rfl) (.cons _ _ _ _ (.sym _ _ _ _ rfl) (.cons _ _ _ _ (.bool _) .nil))) w
def Tf7_6 : List SRule := [.bin .add (iv 1) (sv 5) (sv 6), .bin .quo (sv 6) (iv 14) (iv 6)]
def Lf7_6 : List Seg := [q0, q25, q29, q35, q43, q53, q65, q79, q92, q93]
theorem Cf7_6 : chk kN 6 (fun m => Tf7_6.all (ruleP m) && (u0.all (ruleP m) && (u25.all (ruleP m) && (u29.all (ruleP m) && (u35.all (ruleP m) && (u43.all (ruleP m) && (u53.all (ruleP m) && (u65.all (ruleP m) && (u79.all (ruleP m) && (u92.all (ruleP m) && (u93.all (ruleP m) && true))))))))))) = true := by kernel_rfl
theorem Rf7_6 (q c : Int) (ok : ∀ r ∈ Tf7_6, r.good (qv q c)) : isTrue (@callFF (SVq q c) (@SymT.mk (SVq q c) Tf7_6 ok) Tryz.prog ⟨506, 508, 376⟩ (primOr (prim1 10 primTrue) (primOr (modPrim 6) (segPrim [15, 19, 26, 25] Lf7_6))) 100000 200 4 [sv 0, sv 1, .bool false] m1) = true := by kernel_rfl
theorem Wf7_6 (q c : Int) (hc : Int.emod c 8 = 6) (hk : kN (mN q) = 6) (w : World) :
    Calls Tryz.prog 4 ⟨[.int .i64 q, .int .i64 c, .bool false]⟩ w fun e w' => e = .returned (.bool true) ∧ Below w.heap.size w w' := by
  have hh := chk_at Cf7_6 hk
  simp only [Bool.and_eq_true] at hh
  obtain ⟨h0, h1, h2, h3, h4, h5, h6, h7, h8, h9, h10, _⟩ := hh
  letI SV : SymV := SVq q c
  letI ST : SymT := ⟨Tf7_6, all_good h0⟩
  exact true_call pok (primOr_ok (prim1_ok awake) (primOr_ok (modPrim_ok q c 6 (modC6 q c hc)) (segPrim_ok (l := Lf7_6) (List.forall_mem_cons.2 ⟨q0good q c h1, (List.forall_mem_cons.2 ⟨q25good q c h2, (List.forall_mem_cons.2 ⟨q29good q c h3, (List.forall_mem_cons.2 ⟨q35good q c h4, (List.forall_mem_cons.2 ⟨q43good q c h5, (List.forall_mem_cons.2 ⟨q53good q c h6, (List.forall_mem_cons.2 ⟨q65good q c h7, (List.forall_mem_cons.2 ⟨q79good q c h8, (List.forall_mem_cons.2 ⟨q92good q c h9, (List.forall_mem_cons.2 ⟨q93good q c h10, (fun _ h => by cases h)⟩)⟩)⟩)⟩)⟩)⟩)⟩)⟩)⟩)⟩)))) (Rf7_6 q c (all_good h0))
    (.cons _ _ _ _ (.sym _ _ _ _ rfl) (.cons _ _ _ _ (.sym _ _ _ _ rfl) (.cons _ _ _ _ (.bool _) .nil))) w
def Tf7_7 : List SRule := [.bin .add (iv 1) (sv 5) (sv 6), .bin .quo (sv 6) (iv 14) (iv 7)]
def Lf7_7 : List Seg := [q0, q25, q29, q35, q43, q53, q65, q79, q94]
theorem Cf7_7 : chk kN 7 (fun m => Tf7_7.all (ruleP m) && (u0.all (ruleP m) && (u25.all (ruleP m) && (u29.all (ruleP m) && (u35.all (ruleP m) && (u43.all (ruleP m) && (u53.all (ruleP m) && (u65.all (ruleP m) && (u79.all (ruleP m) && (u94.all (ruleP m) && true)))))))))) = true := by kernel_rfl
theorem Rf7_7 (q c : Int) (ok : ∀ r ∈ Tf7_7, r.good (qv q c)) : isTrue (@callFF (SVq q c) (@SymT.mk (SVq q c) Tf7_7 ok) Tryz.prog ⟨506, 508, 376⟩ (primOr (prim1 10 primTrue) (primOr (modPrim 6) (segPrim [15, 19, 26, 25] Lf7_7))) 100000 200 4 [sv 0, sv 1, .bool false] m1) = true := by kernel_rfl
theorem Wf7_7 (q c : Int) (hc : Int.emod c 8 = 6) (hk : kN (mN q) = 7) (w : World) :
    Calls Tryz.prog 4 ⟨[.int .i64 q, .int .i64 c, .bool false]⟩ w fun e w' => e = .returned (.bool true) ∧ Below w.heap.size w w' := by
  have hh := chk_at Cf7_7 hk
  simp only [Bool.and_eq_true] at hh
  obtain ⟨h0, h1, h2, h3, h4, h5, h6, h7, h8, h9, _⟩ := hh
  letI SV : SymV := SVq q c
  letI ST : SymT := ⟨Tf7_7, all_good h0⟩
  exact true_call pok (primOr_ok (prim1_ok awake) (primOr_ok (modPrim_ok q c 6 (modC6 q c hc)) (segPrim_ok (l := Lf7_7) (List.forall_mem_cons.2 ⟨q0good q c h1, (List.forall_mem_cons.2 ⟨q25good q c h2, (List.forall_mem_cons.2 ⟨q29good q c h3, (List.forall_mem_cons.2 ⟨q35good q c h4, (List.forall_mem_cons.2 ⟨q43good q c h5, (List.forall_mem_cons.2 ⟨q53good q c h6, (List.forall_mem_cons.2 ⟨q65good q c h7, (List.forall_mem_cons.2 ⟨q79good q c h8, (List.forall_mem_cons.2 ⟨q94good q c h9, (fun _ h => by cases h)⟩)⟩)⟩)⟩)⟩)⟩)⟩)⟩)⟩)))) (Rf7_7 q c (all_good h0))
    (.cons _ _ _ _ (.sym _ _ _ _ rfl) (.cons _ _ _ _ (.sym _ _ _ _ rfl) (.cons _ _ _ _ (.bool _) .nil))) w
def Tf8_0 : List SRule := [.bin .add (iv 1) (sv 5) (sv 6), .bin .quo (sv 6) (iv 14) (iv 0)]
def Lf8_0 : List Seg := [q0, q25, q29, q35, q43, q53, q65, q79, q95, q96, q97]
theorem Cf8_0 : chk kN 0 (fun m => Tf8_0.all (ruleP m) && (u0.all (ruleP m) && (u25.all (ruleP m) && (u29.all (ruleP m) && (u35.all (ruleP m) && (u43.all (ruleP m) && (u53.all (ruleP m) && (u65.all (ruleP m) && (u79.all (ruleP m) && (u95.all (ruleP m) && (u96.all (ruleP m) && (u97.all (ruleP m) && true)))))))))))) = true := by kernel_rfl
theorem Rf8_0 (q c : Int) (ok : ∀ r ∈ Tf8_0, r.good (qv q c)) : isTrue (@callFF (SVq q c) (@SymT.mk (SVq q c) Tf8_0 ok) Tryz.prog ⟨506, 508, 376⟩ (primOr (prim1 10 primTrue) (primOr (modPrim 7) (segPrim [15, 19, 26, 25] Lf8_0))) 100000 200 4 [sv 0, sv 1, .bool false] m1) = true := by kernel_rfl
theorem Wf8_0 (q c : Int) (hc : Int.emod c 8 = 7) (hk : kN (mN q) = 0) (w : World) :
    Calls Tryz.prog 4 ⟨[.int .i64 q, .int .i64 c, .bool false]⟩ w fun e w' => e = .returned (.bool true) ∧ Below w.heap.size w w' := by
  have hh := chk_at Cf8_0 hk
  simp only [Bool.and_eq_true] at hh
  obtain ⟨h0, h1, h2, h3, h4, h5, h6, h7, h8, h9, h10, h11, _⟩ := hh
  letI SV : SymV := SVq q c
  letI ST : SymT := ⟨Tf8_0, all_good h0⟩
  exact true_call pok (primOr_ok (prim1_ok awake) (primOr_ok (modPrim_ok q c 7 (modC7 q c hc)) (segPrim_ok (l := Lf8_0) (List.forall_mem_cons.2 ⟨q0good q c h1, (List.forall_mem_cons.2 ⟨q25good q c h2, (List.forall_mem_cons.2 ⟨q29good q c h3, (List.forall_mem_cons.2 ⟨q35good q c h4, (List.forall_mem_cons.2 ⟨q43good q c h5, (List.forall_mem_cons.2 ⟨q53good q c h6, (List.forall_mem_cons.2 ⟨q65good q c h7, (List.forall_mem_cons.2 ⟨q79good q c h8, (List.forall_mem_cons.2 ⟨q95good q c h9, (List.forall_mem_cons.2 ⟨q96good q c h10, (List.forall_mem_cons.2 ⟨q97good q c h11, (fun _ h => by cases h)⟩)⟩)⟩)⟩)⟩)⟩)⟩)⟩)⟩)⟩)⟩)))) (Rf8_0 q c (all_good h0))
    (.cons _ _ _ _ (.sym _ _ _ _ rfl) (.cons _ _ _ _ (.sym _ _ _ _ rfl) (.cons _ _ _ _ (.bool _) .nil))) w
def Tf8_1 : List SRule := [.bin .add (iv 1) (sv 5) (sv 6), .bin .quo (sv 6) (iv 14) (iv 1)]
def Lf8_1 : List Seg := [q0, q25, q29, q35, q43, q53, q65, q79, q95, q98, q99]
theorem Cf8_1 : chk kN 1 (fun m => Tf8_1.all (ruleP m) && (u0.all (ruleP m) && (u25.all (ruleP m) && (u29.all (ruleP m) && (u35.all (ruleP m) && (u43.all (ruleP m) && (u53.all (ruleP m) && (u65.all (ruleP m) && (u79.all (ruleP m) && (u95.all (ruleP m) && (u98.all (ruleP m) && (u99.all (ruleP m) && true)))))))))))) = true := by kernel_rfl
theorem Rf8_1 (q c : Int) (ok : ∀ r ∈ Tf8_1, r.good (qv q c)) : isTrue (@callFF (SVq q c) (@SymT.mk (SVq q c) Tf8_1 ok) Tryz.prog ⟨506, 508, 376⟩ (primOr (prim1 10 primTrue) (primOr (modPrim 7) (segPrim [15, 19, 26, 25] Lf8_1))) 100000 200 4 [sv 0, sv 1, .bool false] m1) = true := by kernel_rfl
theorem Wf8_1 (q c : Int) (hc : Int.emod c 8 = 7) (hk : kN (mN q) = 1) (w : World) :
    Calls Tryz.prog 4 ⟨[.int .i64 q, .int .i64 c, .bool false]⟩ w fun e w' => e = .returned (.bool true) ∧ Below w.heap.size w w' := by
  have hh := chk_at Cf8_1 hk
  simp only [Bool.and_eq_true] at hh
  obtain ⟨h0, h1, h2, h3, h4, h5, h6, h7, h8, h9, h10, h11, _⟩ := hh
  letI SV : SymV := SVq q c
  letI ST : SymT := ⟨Tf8_1, all_good h0⟩
  exact true_call pok (primOr_ok (prim1_ok awake) (primOr_ok (modPrim_ok q c 7 (modC7 q c hc)) (segPrim_ok (l := Lf8_1) (List.forall_mem_cons.2 ⟨q0good q c h1, (List.forall_mem_cons.2 ⟨q25good q c h2, (List.forall_mem_cons.2 ⟨q29good q c h3, (List.forall_mem_cons.2 ⟨q35good q c h4, (List.forall_mem_cons.2 ⟨q43good q c h5, (List.forall_mem_cons.2 ⟨q53good q c h6, (List.forall_mem_cons.2 ⟨q65good q c h7, (List.forall_mem_cons.2 ⟨q79good q c h8, (List.forall_mem_cons.2 ⟨q95good q c h9, (List.forall_mem_cons.2 ⟨q98good q c h10, (List.forall_mem_cons.2 ⟨q99good q c h11, (fun _ h => by cases h)⟩)⟩)⟩)⟩)⟩)⟩)⟩)⟩)⟩)⟩)⟩)))) (Rf8_1 q c (all_good h0))
    (.cons _ _ _ _ (.sym _ _ _ _ rfl) (.cons _ _ _ _ (.sym _ _ _ _ rfl) (.cons _ _ _ _ (.bool _) .nil))) w
def Tf8_2 : List SRule := [.bin .add (iv 1) (sv 5) (sv 6), .bin .quo (sv 6) (iv 14) (iv 2)]
def Lf8_2 : List Seg := [q0, q25, q29, q35, q43, q53, q65, q79, q95, q100, q101]
theorem Cf8_2 : chk kN 2 (fun m => Tf8_2.all (ruleP m) && (u0.all (ruleP m) && (u25.all (ruleP m) && (u29.all (ruleP m) && (u35.all (ruleP m) && (u43.all (ruleP m) && (u53.all (ruleP m) && (u65.all (ruleP m) && (u79.all (ruleP m) && (u95.all (ruleP m) && (u100.all (ruleP m) && (u101.all (ruleP m) && true)))))))))))) = true := by kernel_rfl
theorem Rf8_2 (q c : Int) (ok : ∀ r ∈ Tf8_2, r.good (qv q c)) : isTrue (@callFF (SVq q c) (@SymT.mk (SVq q c) Tf8_2 ok) Tryz.prog ⟨506, 508, 376⟩ (primOr (prim1 10 primTrue) (primOr (modPrim 7) (segPrim [15, 19, 26, 25] Lf8_2))) 100000 200 4 [sv 0, sv 1, .bool false] m1) = true := by kernel_rfl
theorem Wf8_2 (q c : Int) (hc : Int.emod c 8 = 7) (hk : kN (mN q) = 2) (w : World) :
    Calls Tryz.prog 4 ⟨[.int .i64 q, .int .i64 c, .bool false]⟩ w fun e w' => e = .returned (.bool true) ∧ Below w.heap.size w w' := by
  have hh := chk_at Cf8_2 hk
  simp only [Bool.and_eq_true] at hh
  obtain ⟨h0, h1, h2, h3, h4, h5, h6, h7, h8, h9, h10, h11, _⟩ := hh
  letI SV : SymV := SVq q c
  letI ST : SymT := ⟨Tf8_2, all_good h0⟩
  exact true_call pok (primOr_ok (prim1_ok awake) (primOr_ok (modPrim_ok q c 7 (modC7 q c hc)) (segPrim_ok (l := Lf8_2) (List.forall_mem_cons.2 ⟨q0good q c h1, (List.forall_mem_cons.2 ⟨q25good q c h2, (List.forall_mem_cons.2 ⟨q29good q c h3, (List.forall_mem_cons.2 ⟨q35good q c h4, (List.forall_mem_cons.2 ⟨q43good q c h5, (List.forall_mem_cons.2 ⟨q53good q c h6, (List.forall_mem_cons.2 ⟨q65good q c h7, (List.forall_mem_cons.2 ⟨q79good q c h8, (List.forall_mem_cons.2 ⟨q95good q c h9, (List.forall_mem_cons.2 ⟨q100good q c h10, (List.forall_mem_cons.2 ⟨q101good q c h11, (fun _ h => by cases h)⟩)⟩)⟩)⟩)⟩)⟩)⟩)⟩)⟩)⟩)⟩)))) (Rf8_2 q c (all_good h0))
    (.cons _ _ _ _ (.sym _ _ _ _ rfl) (.cons _ _ _ _ (.sym _ _ _ _ rfl) (.cons _ _ _ _ (.bool _) .nil))) w
def Tf8_3 : List SRule := [.bin .add (iv 1) (sv 5) (sv 6), .bin .quo (sv 6) (iv 14) (iv 3)]
def Lf8_3 : List Seg := [q0, q25, q29, q35, q43, q53, q65, q79, q95, q102, q103]
theorem Cf8_3 : chk kN 3 (fun m => Tf8_3.all (ruleP m) && (u0.all (ruleP m) && (u25.all (ruleP m) && (u29.all (ruleP m) && (u35.all (ruleP m) && (u43.all (ruleP m) && (u53.all (ruleP m) && (u65.all (ruleP m) && (u79.all (ruleP m) && (u95.all (ruleP m) && (u102.all (ruleP m) && (u103.all (ruleP m) && true)))))))))))) = true := by kernel_rfl
theorem Rf8_3 (q c : Int) (ok : ∀ r ∈ Tf8_3, r.good (qv q c)) : isTrue (@callFF (SVq q c) (@SymT.mk (SVq q c) Tf8_3 ok) Tryz.prog ⟨506, 508, 376⟩ (primOr (prim1 10 primTrue) (primOr (modPrim 7) (segPrim [15, 19, 26, 25] Lf8_3))) 100000 200 4 [sv 0, sv 1, .bool false] m1) = true := by kernel_rfl
theorem Wf8_3 (q c : Int) (hc : Int.emod c 8 = 7) (hk : kN (mN q) = 3) (w : World) :
    Calls Tryz.prog 4 ⟨[.int .i64 q, .int .i64 c, .bool false]⟩ w fun e w' => e = .returned (.bool true) ∧ Below w.heap.size w w' := by
  have hh := chk_at Cf8_3 hk
  simp only [Bool.and_eq_true] at hh
  obtain ⟨h0, h1, h2, h3, h4, h5, h6, h7, h8, h9, h10, h11, _⟩ := hh
  letI SV : SymV := SVq q c
  letI ST : SymT := ⟨Tf8_3, all_good h0⟩
  exact true_call pok (primOr_ok (prim1_ok awake) (primOr_ok (modPrim_ok q c 7 (modC7 q c hc)) (segPrim_ok (l := Lf8_3) (List.forall_mem_cons.2 ⟨q0good q c h1, (List.forall_mem_cons.2 ⟨q25good q c h2, (List.forall_mem_cons.2 ⟨q29good q c h3, (List.forall_mem_cons.2 ⟨q35good q c h4, (List.forall_mem_cons.2 ⟨q43good q c h5, (List.forall_mem_cons.2 ⟨q53good q c h6, (List.forall_mem_cons.2 ⟨q65good q c h7, (List.forall_mem_cons.2 ⟨q79good q c h8, (List.forall_mem_cons.2 ⟨q95good q c h9, (List.forall_mem_cons.2 ⟨q102good q c h10, (List.forall_mem_cons.2 ⟨q103good q c h11, (fun _ h => by cases h)⟩)⟩)⟩)⟩)⟩)⟩)⟩)⟩)⟩)⟩)⟩)))) (Rf8_3 q c (all_good h0))
    (.cons _ _ _ _ (.sym _ _ _ _ rfl) (.cons _ _ _ _ (.sym _ _ _ _ rfl) (.cons _ _ _ _ (.bool _) .nil))) w
def Tf8_4 : List SRule := [.bin .add (iv 1) (sv 5) (sv 6), .bin .quo (sv 6) (iv 14) (iv 4)]
def Lf8_4 : List Seg := [q0, q25, q29, q35, q43, q53, q65, q79, q95, q104, q105]
theorem Cf8_4 : chk kN 4 (fun m => Tf8_4.all (ruleP m) && (u0.all (ruleP m) && (u25.all (ruleP m) && (u29.all (ruleP m) && (u35.all (ruleP m) && (u43.all (ruleP m) && (u53.all (ruleP m) && (u65.all (ruleP m) && (u79.all (ruleP m) && (u95.all (ruleP m) && (u104.all (ruleP m) && (u105.all (ruleP m) && true)))))))))))) = true := by kernel_rfl
theorem Rf8_4 (q c : Int) (ok : ∀ r ∈ Tf8_4, r.good (qv q c)) : isTrue (@callFF (SVq q c) (@SymT.mk (SVq q c) Tf8_4 ok) Tryz.prog ⟨506, 508, 376⟩ (primOr (prim1 10 primTrue) (primOr (modPrim 7) (segPrim [15, 19, 26, 25] Lf8_4))) 100000 200 4 [sv 0, sv 1, .bool false] m1) = true := by kernel_rfl
theorem Wf8_4 (q c : Int) (hc : Int.emod c 8 = 7) (hk : kN (mN q) = 4) (w : World) :
    Calls Tryz.prog 4 ⟨[.int .i64 q, .int .i64 c, .bool false]⟩ w fun e w' => e = .returned (.bool true) ∧ Below w.heap.size w w' := by
  have hh := chk_at Cf8_4 hk
  simp only [Bool.and_eq_true] at hh
  obtain ⟨h0, h1, h2, h3, h4, h5, h6, h7, h8, h9, h10, h11, _⟩ := hh
  letI SV : SymV := SVq q c
  letI ST : SymT := ⟨Tf8_4, all_good h0⟩
  exact true_call pok (primOr_ok (prim1_ok awake) (primOr_ok (modPrim_ok q c 7 (modC7 q c hc)) (segPrim_ok (l := Lf8_4) (List.forall_mem_cons.2 ⟨q0good q c h1, (List.forall_mem_cons.2 ⟨q25good q c h2, (List.forall_mem_cons.2 ⟨q29good q c h3, (List.forall_mem_cons.2 ⟨q35good q c h4, (List.forall_mem_cons.2 ⟨q43good q c h5, (List.forall_mem_cons.2 ⟨q53good q c h6, (List.forall_mem_cons.2 ⟨q65good q c h7, (List.forall_mem_cons.2 ⟨q79good q c h8, (List.forall_mem_cons.2 ⟨q95good q c h9, (List.forall_mem_cons.2 ⟨q104good q c h10, (List.forall_mem_cons.2 ⟨q105good q c h11, (fun _ h => by cases h)⟩)⟩)⟩)⟩)⟩)⟩)⟩)⟩)⟩)⟩)⟩)))) (Rf8_4 q c (all_good h0))
    (.cons _ _ _ _ (.sym _ _ _ _ rfl) (.cons _ _ _ _ (.sym _ _ _ _ rfl) (.cons _ _ _ _ (.bool _) .nil))) w
def Tf8_5 : List SRule := [.bin .add (iv 1) (sv 5) (sv 6), .bin .quo (sv 6) (iv 14) (iv 5)]
def Lf8_5 : List Seg := [q0, q25, q29, q35, q43, q53, q65, q79, q95, q106, q107]
theorem Cf8_5 : chk kN 5 (fun m => Tf8_5.all (ruleP m) && (u0.all (ruleP m) && (u25.all (ruleP m) && (u29.all (ruleP m) && (u35.all (ruleP m) && (u43.all (ruleP m) && (u53.all (ruleP m) && (u65.all (ruleP m) && (u79.all (ruleP m) && (u95.all (ruleP m) && (u106.all (ruleP m) && (u107.all (ruleP m) && true)))))))))))) = true := by kernel_rfl
theorem Rf8_5 (q c : Int) (ok : ∀ r ∈ Tf8_5, r.good (qv q c)) : isTrue (@callFF (SVq q c) (@SymT.mk (SVq q c) Tf8_5 ok) Tryz.prog ⟨506, 508, 376⟩ (primOr (prim1 10 primTrue) (primOr (modPrim 7) (segPrim [15, 19, 26, 25] Lf8_5))) 100000 200 4 [sv 0, sv 1, .bool false] m1) = true := by kernel_rfl
theorem Wf8_5 (q c : Int) (hc : Int.emod c 8 = 7) (hk : kN (mN q) = 5) (w : World) :
    Calls Tryz.prog 4 ⟨[.int .i64 q, .int .i64 c, .bool false]⟩ w fun e w' => e = .returned (.bool true) ∧ Below w.heap.size w w' := by
  have hh := chk_at Cf8_5 hk
  simp only [Bool.and_eq_true] at hh
  obtain ⟨h0, h1, h2, h3, h4, h5, h6, h7, h8, h9, h10, h11, _⟩ := hh
  letI SV : SymV := SVq q c
  letI ST : SymT := ⟨Tf8_5, all_good h0⟩
  exact true_call pok (primOr_ok (prim1_ok awake) (primOr_ok (modPrim_ok q c 7 (modC7 q c hc)) (segPrim_ok (l := Lf8_5) (List.forall_mem_cons.2 ⟨q0good q c h1, (List.forall_mem_cons.2 ⟨q25good q c h2, (List.forall_mem_cons.2 ⟨q29good q c h3, (List.forall_mem_cons.2 ⟨q35good q c h4, (List.forall_mem_cons.2 ⟨q43good q c h5, (List.forall_mem_cons.2 ⟨q53good q c h6, (List.forall_mem_cons.2 ⟨q65good q c h7, (List.forall_mem_cons.2 ⟨q79good q c h8, (List.forall_mem_cons.2 ⟨q95good q c h9, (List.forall_mem_cons.2 ⟨q106good q c h10, (List.forall_mem_cons.2 ⟨q107good q c h11, (fun _ h => by cases h)⟩)⟩)⟩)⟩)⟩)⟩)⟩)⟩)⟩)⟩)⟩)))) (Rf8_5 q c (all_good h0))
    (.cons _ _ _ _ (.sym _ _ _ _ rfl) (.cons _ _ _ _ (.sym _ _ _ _ rfl) (.cons _ _ _ _ (.bool _) .nil))) w
def Tf8_6 : List SRule := [.bin .add (iv 1) (sv 5) (sv 6), .bin .quo (sv 6) (iv 14) (iv 6)]
def Lf8_6 : List Seg := [q0, q25, q29, q35, q43, q53, q65, q79, q95, q108, q109]
theorem Cf8_6 : chk kN 6 (fun m => Tf8_6.all (ruleP m) && (u0.all (ruleP m) && (u25.all (ruleP m) && (u29.all (ruleP m) && (u35.all (ruleP m) && (u43.all (ruleP m) && (u53.all (ruleP m) && (u65.all (ruleP m) && (u79.all (ruleP m) && (u95.all (ruleP m) && (u108.all (ruleP m) && (u109.all (ruleP m) && true)))))))))))) = true := by kernel_rfl
theorem Rf8_6 (q c : Int) (ok : ∀ r ∈ Tf8_6, r.good (qv q c)) : isTrue (@callFF (SVq q c) (@SymT.mk (SVq q c) Tf8_6 ok) Tryz.prog ⟨506, 508, 376⟩ (primOr (prim1 10 primTrue) (primOr (modPrim 7) (segPrim [15, 19, 26, 25] Lf8_6))) 100000 200 4 [sv 0, sv 1, .bool false] m1) = true := by kernel_rfl
theorem Wf8_6 (q c : Int) (hc : Int.emod c 8 = 7) (hk : kN (mN q) = 6) (w : World) :
    Calls Tryz.prog 4 ⟨[.int .i64 q, .int .i64 c, .bool false]⟩ w fun e w' => e = .returned (.bool true) ∧ Below w.heap.size w w' := by
  have hh := chk_at Cf8_6 hk
  simp only [Bool.and_eq_true] at hh
  obtain ⟨h0, h1, h2, h3, h4, h5, h6, h7, h8, h9, h10, h11, _⟩ := hh
  letI SV : SymV := SVq q c
  letI ST : SymT := ⟨Tf8_6, all_good h0⟩
  exact true_call pok (primOr_ok (prim1_ok awake) (primOr_ok (modPrim_ok q c 7 (modC7 q c hc)) (segPrim_ok (l := Lf8_6) (List.forall_mem_cons.2 ⟨q0good q c h1, (List.forall_mem_cons.2 ⟨q25good q c h2, (List.forall_mem_cons.2 ⟨q29good q c h3, (List.forall_mem_cons.2 ⟨q35good q c h4, (List.forall_mem_cons.2 ⟨q43good q c h5, (List.forall_mem_cons.2 ⟨q53good q c h6, (List.forall_mem_cons.2 ⟨q65good q c h7, (List.forall_mem_cons.2 ⟨q79good q c h8, (List.forall_mem_cons.2 ⟨q95good q c h9, (List.forall_mem_cons.2 ⟨q108good q c h10, (List.forall_mem_cons.2 ⟨q109good q c h11, (fun _ h => by cases h)⟩)⟩)⟩)⟩)⟩)⟩)⟩)⟩)⟩)⟩)⟩)))) (Rf8_6 q c (all_good h0))
    (.cons _ _ _ _ (.sym _ _ _ _ rfl) (.cons _ _ _ _ (.sym _ _ _ _ rfl) (.cons _ _ _ _ (.bool _) .nil))) w
def Tf8_7 : List SRule := [.bin .add (iv 1) (sv 5) (sv 6), .bin .quo (sv 6) (iv 14) (iv 7)]
def Lf8_7 : List Seg := [q0, q25, q29, q35, q43, q53, q65, q79, q95, q110, q111]
theorem Cf8_7 : chk kN 7 (fun m => Tf8_7.all (ruleP m) && (u0.all (ruleP m) && (u25.all (ruleP m) && (u29.all (ruleP m) && (u35.all (ruleP m) && (u43.all (ruleP m) && (u53.all (ruleP m) && (u65.all (ruleP m) && (u79.all (ruleP m) && (u95.all (ruleP m) && (u110.all (ruleP m) && (u111.all (ruleP m) && true)))))))))))) = true := by kernel_rfl
theorem Rf8_7 (q c : Int) (ok : ∀ r ∈ Tf8_7, r.good (qv q c)) : isTrue (@callFF (SVq q c) (@SymT.mk (SVq q c) Tf8_7 ok) Tryz.prog ⟨506, 508, 376⟩ (primOr (prim1 10 primTrue) (primOr (modPrim 7) (segPrim [15, 19, 26, 25] Lf8_7))) 100000 200 4 [sv 0, sv 1, .bool false] m1) = true := by kernel_rfl
theorem Wf8_7 (q c : Int) (hc : Int.emod c 8 = 7) (hk : kN (mN q) = 7) (w : World) :
    Calls Tryz.prog 4 ⟨[.int .i64 q, .int .i64 c, .bool false]⟩ w fun e w' => e = .returned (.bool true) ∧ Below w.heap.size w w' := by
  have hh := chk_at Cf8_7 hk
  simp only [Bool.and_eq_true] at hh
  obtain ⟨h0, h1, h2, h3, h4, h5, h6, h7, h8, h9, h10, h11, _⟩ := hh
  letI SV : SymV := SVq q c
  letI ST : SymT := ⟨Tf8_7, all_good h0⟩
  exact true_call pok (primOr_ok (prim1_ok awake) (primOr_ok (modPrim_ok q c 7 (modC7 q c hc)) (segPrim_ok (l := Lf8_7) (List.forall_mem_cons.2 ⟨q0good q c h1, (List.forall_mem_cons.2 ⟨q25good q c h2, (List.forall_mem_cons.2 ⟨q29good q c h3, (List.forall_mem_cons.2 ⟨q35good q c h4, (List.forall_mem_cons.2 ⟨q43good q c h5, (List.forall_mem_cons.2 ⟨q53good q c h6, (List.forall_mem_cons.2 ⟨q65good q c h7, (List.forall_mem_cons.2 ⟨q79good q c h8, (List.forall_mem_cons.2 ⟨q95good q c h9, (List.forall_mem_cons.2 ⟨q110good q c h10, (List.forall_mem_cons.2 ⟨q111good q c h11, (fun _ h => by cases h)⟩)⟩)⟩)⟩)⟩)⟩)⟩)⟩)⟩)⟩)⟩)))) (Rf8_7 q c (all_good h0))
    (.cons _ _ _ _ (.sym _ _ _ _ rfl) (.cons _ _ _ _ (.sym _ _ _ _ rfl) (.cons _ _ _ _ (.bool _) .nil))) w
end QueueRow
end Go.Proofs.YtopofdjgfbimnaaGreat
