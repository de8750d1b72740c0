/- ServerSetups: the law answers true. -/
import Derived.Test.YtkgfckenobmleaaGreatVH
import Derived.Test.YtkgfckenobmleaaGreatUG
set_option linter.unusedSimpArgs false
set_option linter.unusedVariables false
namespace Go.Proofs.YtkgfckenobmleaaGreat.U
open Go Go.Eng
theorem awake_F : awake_c.F [] [] = some ([], []) := by kernel_rfl
theorem sints_F : sints_c.F [] [nilV, nilV] = some ([.bool true], []) := by kernel_rfl
noncomputable abbrev srD : List (Ctr Tryz.prog) := [room_c, qrcopy_c, rsess_c, qrsess_c, sints_c, rcount_c, qrcount_c, rworld_c, wbytes_c, qwcopy_c, qwbytes_c]
set_option maxRecDepth 100000 in
set_option maxHeartbeats 0 in
theorem sameroom_1 (s : Su) {n : Nat} (hm : s.m = (n : Int)) (h1 : 1 ≤ n) (hn : n ≤ 64) : ∀ (m i k : Nat), i + m = 17 → m < k →
    runT' srD sameroom_f k 1 (sS s ++ qS s ++ rS s ++ qrS s ++ [.int .i64 (i : Int)]) [gV n, bV nilV n, gV n, tV n, bV nilV n, gV n, bV nilV n, gV n, tV n, bV eP n] = some (sS s ++ qS s ++ [.bool true], [gV n, bV nilV n, gV n, tV n, bV nilV n]) := by
  intro m
  induction m with
  | zero =>
    intro i k hi hk
    obtain ⟨k, rfl⟩ : ∃ j, k = j + 1 := ⟨k - 1, by omega⟩
    refine Eq.trans (CFn.step _ rfl) ?_
    refine Eq.trans (evK_t (decide ((i : Int) ≤ 16)) rfl) ?_
    rw [decide_eq_false (by omega), cond_false]
    refine Eq.trans (evK_c _ _ rfl (rworld_F s h1 hn)) ?_
    refine Eq.trans (evK_c _ _ rfl (wbytes_F s hm hn)) ?_
    refine Eq.trans (evK_c _ _ rfl (qwcopy_F s eP q5copy_F2 hm h1 hn)) ?_
    refine Eq.trans (evK_c _ _ rfl (qwbytes_F s eP hm h1 hn)) ?_
    refine Eq.trans (evK_t true (by
      show some (Value.bool ((toL (bytesW s n)) == (toL (bytesW s n)))) = _
      rw [beq_self_eq_true])) ?_
    rw [cond_true]
    kernel_rfl
  | succ m ih =>
    intro i k hi hk
    obtain ⟨k, rfl⟩ : ∃ j, k = j + 1 := ⟨k - 1, by omega⟩
    refine Eq.trans (CFn.step _ rfl) ?_
    refine Eq.trans (evK_t (decide ((i : Int) ≤ 16)) rfl) ?_
    rw [decide_eq_true (by omega), cond_true]
    refine Eq.trans (evK_c _ _ rfl sints_F) ?_
    refine Eq.trans (evK_d (.bool false) rfl) ?_
    refine Eq.trans (evK_t false rfl) ?_
    rw [cond_false]
    refine Eq.trans (evK_d (.int .i64 ((i + 1 : Nat) : Int)) (inc_sev (n := 17) (by omega) (by omega))) ?_
    exact ih (i + 1) k (by omega) (by omega)
theorem sameroom_cF (l k : List Value) : sameroom_c.F l k = CFn.F (P := Tryz.prog) srD sameroom_f l k := by kernel_rfl
set_option maxRecDepth 100000 in
set_option maxHeartbeats 0 in
theorem sameroom_F (s : Su) {n : Nat} (hm : s.m = (n : Int)) (h1 : 1 ≤ n) (hn : n ≤ 64) : sameroom_c.F (sS s ++ qS s) [gV n, bV nilV n, gV n, tV n, bV nilV n] = some (sS s ++ qS s ++ [.bool true], [gV n, bV nilV n, gV n, tV n, bV nilV n]) := by
  rw [sameroom_cF]
  refine CFn.begin 20 (by unfold manyK; omega) ?_
  refine Eq.trans (CFn.step _ rfl) ?_
  refine Eq.trans (evK_c _ _ rfl (room_F s h1 hn)) ?_
  refine Eq.trans (evK_c _ _ rfl (qrcopy_F s nilV q5copy_F1 hm h1 hn)) ?_
  refine Eq.trans (evK_c _ _ rfl (rsess_F s (gV n) (bV nilV n))) ?_
  refine Eq.trans (evK_c _ _ rfl (qrsess_F s (gV n) (tV n) (bV eP n))) ?_
  refine Eq.trans (evK_c _ _ rfl sints_F) ?_
  refine Eq.trans (evK_d (.bool false) rfl) ?_
  refine Eq.trans (evK_t false rfl) ?_
  rw [cond_false]
  refine Eq.trans (evK_c _ _ rfl (rcount_F s h1 hn)) ?_
  refine Eq.trans (evK_c _ _ rfl (qrcount_F s eP hm h1 hn)) ?_
  refine Eq.trans (evK_t false rfl) ?_
  rw [cond_false]
  refine Eq.trans ?_ (sameroom_1 s hm h1 hn 16 1 19 (by omega) (by omega))
  kernel_rfl
noncomputable abbrev alD : List (Ctr Tryz.prog) := [sints_c, sameroom_c]
theorem alike_cF (l k : List Value) : alike_c.F l k = CFn.F (P := Tryz.prog) alD alike_f l k := by kernel_rfl
set_option maxRecDepth 100000 in
set_option maxHeartbeats 0 in
theorem alike_F (s : Su) {n : Nat} (hm : s.m = (n : Int)) (h1 : 1 ≤ n) (hn : n ≤ 64) : alike_c.F (sS s ++ qS s) [gV n, bV nilV n, gV n, tV n, bV nilV n] = some (sS s ++ qS s ++ [.bool true], [gV n, bV nilV n, gV n, tV n, bV nilV n]) := by
  rw [alike_cF]
  refine CFn.flat _ rfl ?_
  refine Eq.trans (evK_c _ _ rfl sints_F) ?_
  refine Eq.trans (evK_d (.bool false) rfl) ?_
  refine Eq.trans (evK_t false rfl) ?_
  rw [cond_false]
  refine Eq.trans (evK_t false rfl) ?_
  rw [cond_false]
  refine Eq.trans (evK_t false rfl) ?_
  rw [cond_false]
  refine Eq.trans (evK_c _ _ rfl (sameroom_F s hm h1 hn)) ?_
  rfl
noncomputable abbrev lvD : List (Ctr Tryz.prog) := [snew_c, qnew_c, sck_c, qck_c, alike_c, awake_c]
theorem lawv_cF (l k : List Value) : lawv_c.F l k = CFn.F (P := Tryz.prog) lvD lawv_f l k := by kernel_rfl
set_option maxRecDepth 100000 in
set_option maxHeartbeats 0 in
theorem lawv_F (s : Su) (hs : su64 s) (hc : ckSv s = 0) : lawv_c.F (suL s) [] = some ([.bool true], []) := by
  obtain ⟨hr, h1, hn⟩ := ck_num hc
  obtain ⟨n, hm⟩ : ∃ n : Nat, s.m = (n : Int) := ⟨s.m.toNat, by omega⟩
  rw [lawv_cF]
  refine CFn.flat _ rfl ?_
  refine Eq.trans (evK_c _ _ rfl (snew_F s hs hc hm)) ?_
  refine Eq.trans (evK_c _ _ rfl (qnew_F s hc hm)) ?_
  refine Eq.trans (evK_c _ _ rfl (sck_F s hs.1 hs.2.1 hs.2.2)) ?_
  refine Eq.trans (evK_c _ _ rfl (qck_F s)) ?_
  refine Eq.trans (evK_t (ckSv s != ckSv s) rfl) ?_
  rw [bne_self_eq_false, cond_false]
  refine Eq.trans (evK_t false rfl) ?_
  rw [cond_false]
  refine Eq.trans (evK_c _ _ rfl (alike_F s hm (by omega) (by omega))) ?_
  refine Eq.trans (evK_t true rfl) ?_
  rw [cond_true]
  refine Eq.trans (evK_c _ _ rfl awake_F) ?_
  rfl
noncomputable abbrev liD : List (Ctr Tryz.prog) := [sck_c, qck_c, awake_c, rck_c, wck_c, alike_c]
theorem lawi_cF (l k : List Value) : lawi_c.F l k = CFn.F (P := Tryz.prog) liD lawi_f l k := by kernel_rfl
theorem lawi_F (s : Su) (hs : su64 s) (hc : ckSv s ≠ 0) : lawi_c.F (suL s) [] = some ([.bool true], []) := by
  rw [lawi_cF]
  refine CFn.flat _ rfl ?_
  refine Eq.trans (evK_c _ _ rfl (sck_F s hs.1 hs.2.1 hs.2.2)) ?_
  refine Eq.trans (evK_t (ckSv s != 0) rfl) ?_
  rw [bne_iff_ne.2 hc, cond_true]
  refine Eq.trans (evK_c _ _ rfl (qck_F s)) ?_
  refine Eq.trans (evK_t (ckSv s != 0) rfl) ?_
  rw [bne_iff_ne.2 hc, cond_true]
  refine Eq.trans (evK_t (ckSv s != ckSv s) rfl) ?_
  rw [bne_self_eq_false, cond_false]
  refine Eq.trans (evK_c _ _ rfl awake_F) ?_
  rfl
end Go.Proofs.YtkgfckenobmleaaGreat.U
