/- ServerSetups: the bytes of a world without bodies, by both. -/
import Derived.Test.YtkgfckenobmleaaGreatVG
set_option linter.unusedSimpArgs false
set_option linter.unusedVariables false
namespace Go.Proofs.YtkgfckenobmleaaGreat.U
open Go Go.Eng
abbrev runT' (cs : List (Ctr Tryz.prog)) (F : CFn) (k i : Nat) (ss ls : List Value) := CFn.run (P := Tryz.prog) cs F k i (envL ss ls)
theorem shr_i64 (n : Int) : ∀ i : Nat, i ≤ 7 → sev (.bin .shr) [.int .i64 n, .int .u64 (8 * (i : Int))] = some (.int .i64 (shV n i))
  | 0, _ => rfl
  | 1, _ => rfl
  | 2, _ => rfl
  | 3, _ => rfl
  | 4, _ => rfl
  | 5, _ => rfl
  | 6, _ => rfl
  | 7, _ => rfl
  | _ + 8, h => by omega
def numsB (l : List Int) : List Int := l.flatMap fun n => be n 8
def rowI (l : List Int) : Value := lv (l.map fun n => [.int .i64 n])
theorem rowI_len (l : List Int) : lsev .len [rowI l] = some (.int .i64 (l.length : Int)) := by
  simp only [rowI, lsev, lrows_lv, Option.map_some, List.length_map]
  rfl
theorem rowI_elem {l : List Int} {i : Nat} {n : Int} (h : l[i]? = some n) : lsev (.iad 1) [rowI l, .int .i64 (i : Int)] = some (plR [.int .i64 n]) := by
  have h2 : (l.map fun n => [Value.int .i64 n])[i]? = some [.int .i64 n] := by rw [List.getElem?_map, h]; rfl
  simp only [rowI, lsev, lrows_lv, int1_nat, h2]
  rfl
theorem numsB_succ {l : List Int} {i : Nat} {n : Int} (h : l[i]? = some n) : numsB (l.take (i + 1)) = numsB (l.take i) ++ be n 8 := by
  unfold numsB
  rw [List.take_add_one, h, List.flatMap_append]
  simp
theorem numsB_len (l : List Int) : (numsB l).length = 8 * l.length := by
  unfold numsB
  induction l with
  | nil => rfl
  | cons n r ih => rw [List.flatMap_cons, List.length_append, be_len, ih, List.length_cons]; omega
theorem chunk1 : ∀ xs : List Value, chunk 1 xs.length xs = xs.map fun v => [v]
  | [] => rfl
  | a :: r => by
    show [a] :: chunk 1 r.length r = [a] :: r.map fun v => [v]
    rw [chunk1 r]
theorem lit_is (xs : List Value) : lsev (.lit 1) xs = some (lv (xs.map fun v => [v])) := by
  have h : Nat.beq (xs.length % 1) 0 = true := by rw [Nat.mod_one]; rfl
  show (bif Nat.ble 1 1 && Nat.beq (xs.length % 1) 0 then some (lv (chunk 1 xs.length xs)) else none) = _
  rw [h, chunk1]
  rfl
theorem put_2 (L P : Value) (n len i : Int) (k : Nat) : ∀ (j : Nat) (z : Int) (V : Value) (l : List Int), z = 8 * (j : Int) - 8 → j ≤ 8 → BV V l → l.length + j ≤ 1048576 →
    ∃ V', BV V' (l ++ be n j) ∧ ∀ rs, runT' [] put_f (k + 1) 2 [.int .i64 n, .int .i64 (-8), .int .i64 len, .int .i64 i, .bool true, .int .i64 n] [V', L, P] = some rs → runT' [] put_f (k + j + 1) 2 [.int .i64 n, .int .i64 z, .int .i64 len, .int .i64 i, .bool true, .int .i64 n] [V, L, P] = some rs := by
  intro j
  induction j with
  | zero =>
    intro z V l hz _ hV _
    obtain rfl : z = -8 := by omega
    refine ⟨V, ?_, fun rs h => h⟩
    rw [be, List.append_nil]
    exact hV
  | succ j ih =>
    intro z V l hz hj hV hl
    obtain rfl : z = 8 * (j : Int) := by omega
    obtain ⟨V', hB, step⟩ := ih (8 * (j : Int) - 8) _ (l ++ [byV n j]) rfl (by omega) (BV.lv _) (by rw [List.length_append, List.length_singleton]; omega)
    refine ⟨V', ?_, fun rs h => ?_⟩
    · rw [List.append_assoc] at hB
      exact hB
    refine Eq.trans (CFn.step _ rfl) ?_
    refine Eq.trans (evK_t (decide (8 * (j : Int) ≥ 0)) rfl) ?_
    rw [decide_eq_true (by omega), cond_true]
    refine Eq.trans (evK_d (.int .u64 (8 * (j : Int))) (by
      show some (Value.int .u64 (IntKind.u64.wrap (8 * (j : Int)))) = _
      rw [wrapU64, Int.emod_eq_of_lt (by omega) (by omega)])) ?_
    refine Eq.trans (evK_d (.int .i64 (shV n j)) (shr_i64 n j (by omega))) ?_
    refine Eq.trans (evK_d (.int .u8 (byV n j)) rfl) ?_
    refine Eq.trans (evK_e (lv (rowB (l ++ [byV n j]))) (app1 hV (by omega) _) rfl) ?_
    refine Eq.trans (evK_d (.int .i64 (8 * (j : Int) - 8)) (by
      show some (Value.int .i64 (IntKind.i64.wrap (8 * (j : Int) - 8))) = _
      rw [wrap_in (by unfold i64R; omega)])) ?_
    exact step rs h
theorem put_1 (nums : List Int) (hn : nums.length ≤ 100) : ∀ (m i : Nat) (k : Nat) (V : Value) (l : List Int), i + m = nums.length → BV V (l ++ numsB (nums.take i)) → l.length ≤ 100000 → 10 * m < k →
    ∃ V', runT' [] put_f k 1 [.int .i64 (nums.length : Int), .int .i64 (i : Int)] [V, rowI nums] = some ([], [V']) ∧ BV V' (l ++ numsB nums) := by
  intro m
  induction m with
  | zero =>
    intro i k V l hi hV _ hk
    obtain ⟨k, rfl⟩ : ∃ j, k = j + 1 := ⟨k - 1, by omega⟩
    have : i = nums.length := by omega
    subst this
    rw [List.take_length] at hV
    refine ⟨V, ?_, hV⟩
    refine Eq.trans (CFn.step _ rfl) ?_
    refine Eq.trans (evK_t (decide ((nums.length : Int) < (nums.length : Int))) rfl) ?_
    rw [decide_eq_false (by omega), cond_false]
    rfl
  | succ m ih =>
    intro i k V l hi hV hl hk
    obtain ⟨k, rfl⟩ : ∃ j, k = j + 1 + 8 + 1 := ⟨k - 10, by omega⟩
    have hlt : i < nums.length := by omega
    have hx : nums[i]? = some nums[i] := List.getElem?_eq_getElem hlt
    generalize nums[i] = n at hx
    have hlen := numsB_len (nums.take i)
    rw [List.length_take] at hlen
    have hs := numsB_succ hx
    obtain ⟨V0, hB0, step⟩ := put_2 (rowI nums) (plR [.int .i64 n]) n (nums.length : Int) (i : Int) k 8 56 V (l ++ numsB (nums.take i)) (by omega) (by omega) hV (by rw [List.length_append]; omega)
    obtain ⟨V', e, hB⟩ := ih (i + 1) k V0 l (by omega) (by rw [hs, ← List.append_assoc]; exact hB0) hl (by omega)
    refine ⟨V', ?_, hB⟩
    refine Eq.trans (CFn.step _ rfl) ?_
    refine Eq.trans (evK_t (decide ((i : Int) < (nums.length : Int))) rfl) ?_
    rw [decide_eq_true (by omega : (i : Int) < (nums.length : Int)), cond_true]
    refine Eq.trans (evK_e (plR [.int .i64 n]) (rowI_elem hx) rfl) ?_
    refine Eq.trans (evK_l [.int .i64 n] [.int .i64 n] [] rfl rfl) ?_
    refine step _ ?_
    refine Eq.trans (CFn.step _ rfl) ?_
    refine Eq.trans (evK_t false rfl) ?_
    rw [cond_false]
    refine Eq.trans (evK_d (.int .i64 ((i + 1 : Nat) : Int)) (inc_sev hlt (by omega))) ?_
    exact e
theorem put_cF (l k : List Value) : put_c.F l k = CFn.F (P := Tryz.prog) [] put_f l k := by kernel_rfl
theorem put_F (nums : List Int) (hn : nums.length ≤ 100) {V : Value} {l : List Int} (hV : BV V l) (hl : l.length ≤ 100000) : ∃ V', put_c.F [] [V, rowI nums] = some ([], [V']) ∧ BV V' (l ++ numsB nums) := by
  obtain ⟨V', e, hB⟩ := put_1 nums hn nums.length 0 (10 * nums.length + 1) V l (by omega) (by simpa [numsB] using hV) hl (by omega)
  refine ⟨V', ?_, hB⟩
  rw [put_cF]
  refine CFn.begin (10 * nums.length + 2) (by unfold manyK; omega) ?_
  refine Eq.trans (CFn.step _ rfl) ?_
  refine Eq.trans (evK_es _ (rowI_len nums) rfl) ?_
  exact e
theorem byV_u64 (n : Int) (j : Nat) (h : j ≤ 7) : byV (u64 n) j = byV n j := by
  unfold byV shV u64
  rw [wrapU64, IntKind.wrap_u8, IntKind.wrap_u8, Int.fdiv_eq_ediv_of_nonneg _ (Int.le_of_lt (Int.pow_pos (by decide))), Int.fdiv_eq_ediv_of_nonneg _ (Int.le_of_lt (Int.pow_pos (by decide)))]
  match j, h with
  | 0, _ => omega
  | 1, _ => omega
  | 2, _ => omega
  | 3, _ => omega
  | 4, _ => omega
  | 5, _ => omega
  | 6, _ => omega
  | 7, _ => omega
theorem be_u64 (n : Int) : be (u64 n) 8 = be n 8 := by
  simp only [be, byV_u64 n 0 (by omega), byV_u64 n 1 (by omega), byV_u64 n 2 (by omega), byV_u64 n 3 (by omega), byV_u64 n 4 (by omega), byV_u64 n 5 (by omega), byV_u64 n 6 (by omega), byV_u64 n 7 (by omega)]
set_option maxHeartbeats 4000000 in
theorem qnums_1 (nums : List Int) (hn : nums.length ≤ 100) : ∀ (m i : Nat) (k : Nat), i + m = nums.length → m < k →
    runT' [] qnums_f k 1 [toS (numsB (nums.take i)), .int .i64 (i : Int)] [rowI nums] = some ([toS (numsB nums)], []) := by
  intro m
  induction m with
  | zero =>
    intro i k hi hk
    obtain ⟨k, rfl⟩ : ∃ j, k = j + 1 := ⟨k - 1, by omega⟩
    have : i = nums.length := by omega
    subst this
    refine Eq.trans (CFn.step _ rfl) ?_
    refine Eq.trans (evK_es _ (rowI_len nums) rfl) ?_
    refine Eq.trans (evK_t (decide ((nums.length : Int) < (nums.length : Int))) rfl) ?_
    rw [decide_eq_false (by omega), cond_false, List.take_length]
    rfl
  | succ m ih =>
    intro i k hi hk
    obtain ⟨k, rfl⟩ : ∃ j, k = j + 1 := ⟨k - 1, by omega⟩
    have hlt : i < nums.length := by omega
    have hx : nums[i]? = some nums[i] := List.getElem?_eq_getElem hlt
    generalize nums[i] = n at hx
    have hlen := numsB_len (nums.take i)
    rw [List.length_take] at hlen
    have hs := numsB_succ hx
    refine Eq.trans (CFn.step _ rfl) ?_
    refine Eq.trans (evK_es _ (rowI_len nums) rfl) ?_
    refine Eq.trans (evK_t (decide ((i : Int) < (nums.length : Int))) rfl) ?_
    rw [decide_eq_true (by omega : (i : Int) < (nums.length : Int)), cond_true]
    refine Eq.trans (evK_e (plR [.int .i64 n]) (rowI_elem hx) rfl) ?_
    refine Eq.trans (evK_l [.int .i64 n] [.int .i64 n] [] rfl rfl) ?_
    refine Eq.trans (evK_d (.int .u64 (u64 n)) rfl) ?_
    have hb := be_u64 n
    generalize u64 n = u at hb ⊢
    have hw : some (toS (numsB (nums.take i) ++ be u 8)) = some (toS (numsB (nums.take (i + 1)))) := by rw [hb, ← hs]
    refine Eq.trans (evK_d (.int .u64 (shV u 7)) (shr_sev u 7 (by omega))) ?_
    refine Eq.trans (evK_d (.int .u8 (byV u 7)) rfl) ?_
    refine Eq.trans (evK_d (.int .u64 (shV u 6)) (shr_sev u 6 (by omega))) ?_
    refine Eq.trans (evK_d (.int .u8 (byV u 6)) rfl) ?_
    refine Eq.trans (evK_d (.int .u64 (shV u 5)) (shr_sev u 5 (by omega))) ?_
    refine Eq.trans (evK_d (.int .u8 (byV u 5)) rfl) ?_
    refine Eq.trans (evK_d (.int .u64 (shV u 4)) (shr_sev u 4 (by omega))) ?_
    refine Eq.trans (evK_d (.int .u8 (byV u 4)) rfl) ?_
    refine Eq.trans (evK_d (.int .u64 (shV u 3)) (shr_sev u 3 (by omega))) ?_
    refine Eq.trans (evK_d (.int .u8 (byV u 3)) rfl) ?_
    refine Eq.trans (evK_d (.int .u64 (shV u 2)) (shr_sev u 2 (by omega))) ?_
    refine Eq.trans (evK_d (.int .u8 (byV u 2)) rfl) ?_
    refine Eq.trans (evK_d (.int .u64 (shV u 1)) (shr_sev u 1 (by omega))) ?_
    refine Eq.trans (evK_d (.int .u8 (byV u 1)) rfl) ?_
    refine Eq.trans (evK_d (.int .u64 (shV u 0)) (shr_sev u 0 (by omega))) ?_
    refine Eq.trans (evK_d (.int .u8 (byV u 0)) rfl) ?_
    refine Eq.trans (evK_d (toS (be u 8)) rfl) ?_
    refine Eq.trans (evK_d (toS (numsB (nums.take (i + 1)))) (Eq.trans (add_sev (by rw [be_len]; omega)) hw)) ?_
    refine Eq.trans (evK_d (.int .i64 ((i + 1 : Nat) : Int)) (inc_sev hlt (by omega))) ?_
    exact ih (i + 1) k (by omega) (by omega)
theorem qnums_cF (l k : List Value) : qnums_c.F l k = CFn.F (P := Tryz.prog) [] qnums_f l k := by kernel_rfl
theorem qnums_F (nums : List Int) (hn : nums.length ≤ 100) : qnums_c.F [] [rowI nums] = some ([toS (numsB nums)], []) := by
  rw [qnums_cF]
  refine CFn.begin (nums.length + 2) (by unfold manyK; omega) ?_
  refine Eq.trans (CFn.step _ rfl) ?_
  exact qnums_1 nums hn nums.length 0 (nums.length + 1) (by omega) (by omega)
def headW (s : Su) : List Int := [98, 103, 108, 49] ++ numsB [s.x, s.y] ++ numsB [s.d, s.m, s.r, 0, 0]
def slotsW (n : Nat) : List Int := (List.replicate n (numsB [0, 0])).flatten
/-- the bytes of a world without bodies -/
def bytesW (s : Su) (n : Nat) : List Int := headW s ++ slotsW n ++ numsB [0]
theorem slotsW_succ (n : Nat) : slotsW (n + 1) = slotsW n ++ numsB [0, 0] := by
  unfold slotsW
  rw [List.replicate_succ', List.flatten_append]
  simp
theorem slotsW_len (n : Nat) : (slotsW n).length = 16 * n := by
  induction n with
  | zero => rfl
  | succ n ih => rw [slotsW_succ, List.length_append, ih, numsB_len]; show 16 * n + 8 * 2 = _; omega
theorem headW_len (s : Su) : (headW s).length = 60 := by
  unfold headW
  simp only [List.length_append, numsB_len, List.length_cons, List.length_nil]
noncomputable abbrev wbD : List (Ctr Tryz.prog) := [put_c, wbody_c]
theorem wbytes_2 (s : Su) (G B V : Value) {l : List Int} (hV : BV V l) (k : Nat) : runT' wbD wbytes_f (k + 1) 2 (wS s ++ [i0, i0]) [G, B, V] = some (wS s ++ [toS l], [G, B]) := by
  refine Eq.trans (CFn.step _ rfl) ?_
  refine Eq.trans (evK_t false rfl) ?_
  rw [cond_false]
  refine Eq.trans (evK_es (toS l) (tos_sev hV) rfl) ?_
  rfl
theorem wbytes_1 (s : Su) (n : Nat) (hn : n ≤ 64) : ∀ (m i : Nat) (k : Nat) (V : Value), i + m = n → BV V (headW s ++ slotsW i) → m + 1 < k →
    runT' wbD wbytes_f k 1 (wS s ++ [.int .i64 (n : Int), .int .i64 (i : Int)]) [gV n, bV nilV n, V] = some (wS s ++ [toS (bytesW s n)], [gV n, bV nilV n]) := by
  intro m
  induction m with
  | zero =>
    intro i k V hi hV hk
    obtain ⟨k, rfl⟩ : ∃ j, k = j + 1 + 1 := ⟨k - 2, by omega⟩
    have : i = n := by omega
    subst this
    obtain ⟨V1, e1, h1⟩ := put_F [0] (by decide) hV (by rw [List.length_append, headW_len, slotsW_len]; omega)
    refine Eq.trans (CFn.step _ rfl) ?_
    refine Eq.trans (evK_t (decide ((i : Int) < (i : Int))) rfl) ?_
    rw [decide_eq_false (by omega), cond_false]
    refine Eq.trans (evK_e (rowI [0]) (lit_is _) rfl) ?_
    refine Eq.trans (evK_c [] [V1] rfl e1) ?_
    exact wbytes_2 s (gV i) (bV nilV i) V1 h1 k
  | succ m ih =>
    intro i k V hi hV hk
    obtain ⟨k, rfl⟩ : ∃ j, k = j + 1 := ⟨k - 1, by omega⟩
    have hlt : i < n := by omega
    obtain ⟨V1, e1, h1⟩ := put_F [0, 0] (by decide) hV (by rw [List.length_append, headW_len, slotsW_len]; omega)
    rw [List.append_assoc, ← slotsW_succ] at h1
    refine Eq.trans (CFn.step _ rfl) ?_
    refine Eq.trans (evK_t (decide ((i : Int) < (n : Int))) rfl) ?_
    rw [decide_eq_true (by omega : (i : Int) < (n : Int)), cond_true]
    refine Eq.trans (evK_es _ (lenR n [i0]) rfl) ?_
    refine Eq.trans (evK_t false (eql_0 (by omega : 1 ≤ n))) ?_
    rw [cond_false]
    refine Eq.trans (evK_t (decide ((i : Int) < 0)) rfl) ?_
    rw [decide_eq_false (by omega), cond_false]
    refine Eq.trans (evK_t (decide ((i : Int) ≥ (n : Int))) rfl) ?_
    rw [decide_eq_false (by omega), cond_false]
    refine Eq.trans (evK_d (.int .u64 (i : Int)) (by
      show some (Value.int .u64 (IntKind.u64.wrap (i : Int))) = _
      rw [wrapU64, Int.emod_eq_of_lt (by omega) (by omega)])) ?_
    refine Eq.trans (evK_d (.int .u64 0) (by
      show pureSem (Op.shift .shr .u64 0 .u64 (i : Int)) = _
      unfold Op.shift
      rw [if_neg (by omega)]
      show some (Value.int .u64 ((0 : Int).fdiv _)) = _
      rw [Int.zero_fdiv])) ?_
    refine Eq.trans (evK_d (.int .u64 0) rfl) ?_
    refine Eq.trans (evK_t false rfl) ?_
    rw [cond_false]
    refine Eq.trans (evK_e (plR [i0]) (elemR hlt rfl (by decide)) rfl) ?_
    refine Eq.trans (evK_l [i0] [i0] [] rfl rfl) ?_
    refine Eq.trans (evK_e (rowI [0, 0]) (lit_is _) rfl) ?_
    refine Eq.trans (evK_c [] [V1] rfl e1) ?_
    refine Eq.trans (evK_d (.int .i64 ((i + 1 : Nat) : Int)) (inc_sev hlt (by omega))) ?_
    exact ih (i + 1) k V1 (by omega) h1 (by omega)
theorem wbytes_cF (l k : List Value) : wbytes_c.F l k = CFn.F (P := Tryz.prog) wbD wbytes_f l k := by kernel_rfl
set_option maxHeartbeats 4000000 in
theorem wbytes_F (s : Su) {n : Nat} (hm : s.m = (n : Int)) (hn : n ≤ 64) : wbytes_c.F (wS s) [gV n, bV nilV n] = some (wS s ++ [toS (bytesW s n)], [gV n, bV nilV n]) := by
  obtain ⟨V1, e1, h1⟩ := put_F [s.d, s.m, s.r, 0, 0] (by simp) (BV.lv ([98, 103, 108, 49] ++ numsB [s.x, s.y])) (by rw [List.length_append, numsB_len]; simp)
  rw [wbytes_cF]
  refine CFn.begin (n + 3) (by unfold manyK; omega) ?_
  refine Eq.trans (CFn.step _ rfl) ?_
  refine Eq.trans (evK_d (.int .i64 (shV s.x 7)) rfl) ?_
  refine Eq.trans (evK_d (.int .u8 (byV s.x 7)) rfl) ?_
  refine Eq.trans (evK_d (.int .i64 (shV s.x 6)) rfl) ?_
  refine Eq.trans (evK_d (.int .u8 (byV s.x 6)) rfl) ?_
  refine Eq.trans (evK_d (.int .i64 (shV s.x 5)) rfl) ?_
  refine Eq.trans (evK_d (.int .u8 (byV s.x 5)) rfl) ?_
  refine Eq.trans (evK_d (.int .i64 (shV s.x 4)) rfl) ?_
  refine Eq.trans (evK_d (.int .u8 (byV s.x 4)) rfl) ?_
  refine Eq.trans (evK_d (.int .i64 (shV s.x 3)) rfl) ?_
  refine Eq.trans (evK_d (.int .u8 (byV s.x 3)) rfl) ?_
  refine Eq.trans (evK_d (.int .i64 (shV s.x 2)) rfl) ?_
  refine Eq.trans (evK_d (.int .u8 (byV s.x 2)) rfl) ?_
  refine Eq.trans (evK_d (.int .i64 (shV s.x 1)) rfl) ?_
  refine Eq.trans (evK_d (.int .u8 (byV s.x 1)) rfl) ?_
  refine Eq.trans (evK_d (.int .i64 (shV s.x 0)) rfl) ?_
  refine Eq.trans (evK_d (.int .u8 (byV s.x 0)) rfl) ?_
  refine Eq.trans (evK_d (.int .i64 (shV s.y 7)) rfl) ?_
  refine Eq.trans (evK_d (.int .u8 (byV s.y 7)) rfl) ?_
  refine Eq.trans (evK_d (.int .i64 (shV s.y 6)) rfl) ?_
  refine Eq.trans (evK_d (.int .u8 (byV s.y 6)) rfl) ?_
  refine Eq.trans (evK_d (.int .i64 (shV s.y 5)) rfl) ?_
  refine Eq.trans (evK_d (.int .u8 (byV s.y 5)) rfl) ?_
  refine Eq.trans (evK_d (.int .i64 (shV s.y 4)) rfl) ?_
  refine Eq.trans (evK_d (.int .u8 (byV s.y 4)) rfl) ?_
  refine Eq.trans (evK_d (.int .i64 (shV s.y 3)) rfl) ?_
  refine Eq.trans (evK_d (.int .u8 (byV s.y 3)) rfl) ?_
  refine Eq.trans (evK_d (.int .i64 (shV s.y 2)) rfl) ?_
  refine Eq.trans (evK_d (.int .u8 (byV s.y 2)) rfl) ?_
  refine Eq.trans (evK_d (.int .i64 (shV s.y 1)) rfl) ?_
  refine Eq.trans (evK_d (.int .u8 (byV s.y 1)) rfl) ?_
  refine Eq.trans (evK_d (.int .i64 (shV s.y 0)) rfl) ?_
  refine Eq.trans (evK_d (.int .u8 (byV s.y 0)) rfl) ?_
  refine Eq.trans (evK_e (lv (rowB ([98, 103, 108, 49] ++ numsB [s.x, s.y]))) (lit_is _) rfl) ?_
  refine Eq.trans (evK_e (rowI [s.d, s.m, s.r, 0, 0]) (lit_is _) rfl) ?_
  refine Eq.trans (evK_c [] [V1] rfl e1) ?_
  have h := wbytes_1 s n hn n 0 (n + 2) V1 (by omega) (by rw [show slotsW 0 = [] from rfl, List.append_nil]; exact h1) (by omega)
  rw [← hm] at h
  exact h
noncomputable abbrev qbD : List (Ctr Tryz.prog) := [qnums_c, qbody_c]
theorem qwbytes_2 (s : Su) (G T B : Value) (l : List Int) (k : Nat) : runT' qbD qwbytes_f (k + 1) 2 (qwS s ++ [toS l, i0]) [G, T, B] = some (qwS s ++ [toS l], [G, T, B]) := by
  refine Eq.trans (CFn.step _ rfl) ?_
  refine Eq.trans (evK_t false rfl) ?_
  rw [cond_false]
  rfl
theorem qwbytes_1 (s : Su) (p : Value) (n : Nat) (hn : n ≤ 64) : ∀ (m i : Nat) (k : Nat), i + m = n → m + 1 < k →
    runT' qbD qwbytes_f k 1 (qwS s ++ [toS (headW s ++ slotsW i), .int .i64 (i : Int)]) [gV n, tV n, bV p n] = some (qwS s ++ [toS (bytesW s n)], [gV n, tV n, bV p n]) := by
  intro m
  induction m with
  | zero =>
    intro i k hi hk
    obtain ⟨k, rfl⟩ : ∃ j, k = j + 1 + 1 := ⟨k - 2, by omega⟩
    have : i = n := by omega
    subst this
    refine Eq.trans (CFn.step _ rfl) ?_
    refine Eq.trans (evK_es _ (lenR i [.bool false]) rfl) ?_
    refine Eq.trans (evK_t (decide ((i : Int) < (i : Int))) rfl) ?_
    rw [decide_eq_false (by omega), cond_false]
    refine Eq.trans (evK_d (toS (bytesW s i)) (add_sev (m := numsB [0]) (by rw [List.length_append, headW_len, slotsW_len, numsB_len]; show 60 + 16 * i + 8 * 1 ≤ _; omega))) ?_
    exact qwbytes_2 s (gV i) (tV i) (bV p i) (bytesW s i) k
  | succ m ih =>
    intro i k hi hk
    obtain ⟨k, rfl⟩ : ∃ j, k = j + 1 := ⟨k - 1, by omega⟩
    have hlt : i < n := by omega
    refine Eq.trans (CFn.step _ rfl) ?_
    refine Eq.trans (evK_es _ (lenR n [.bool false]) rfl) ?_
    refine Eq.trans (evK_t (decide ((i : Int) < (n : Int))) rfl) ?_
    rw [decide_eq_true (by omega : (i : Int) < (n : Int)), cond_true]
    refine Eq.trans (evK_e (plR [.bool false]) (elemR hlt rfl (by decide)) rfl) ?_
    refine Eq.trans (evK_l [.bool false] [.bool false] [] rfl rfl) ?_
    refine Eq.trans (evK_t false rfl) ?_
    rw [cond_false]
    refine Eq.trans (evK_e (plR [i0]) (elemR hlt rfl (by decide)) rfl) ?_
    refine Eq.trans (evK_l [i0] [i0] [] rfl rfl) ?_
    refine Eq.trans (evK_e (rowI [0, 0]) (lit_is _) rfl) ?_
    refine Eq.trans (evK_c _ _ rfl (qnums_F [0, 0] (by decide))) ?_
    refine Eq.trans (evK_d (toS (headW s ++ slotsW (i + 1))) (by
      rw [slotsW_succ, ← List.append_assoc]
      exact add_sev (by rw [List.length_append, headW_len, slotsW_len, numsB_len]; show 60 + 16 * i + 8 * 2 ≤ _; omega))) ?_
    refine Eq.trans (evK_d (.int .i64 ((i + 1 : Nat) : Int)) (inc_sev hlt (by omega))) ?_
    exact ih (i + 1) k (by omega) (by omega)
theorem qwbytes_cF (l k : List Value) : qwbytes_c.F l k = CFn.F (P := Tryz.prog) qbD qwbytes_f l k := by kernel_rfl
theorem qwbytes_F (s : Su) (p : Value) {n : Nat} (hm : s.m = (n : Int)) (h1 : 1 ≤ n) (hn : n ≤ 64) : qwbytes_c.F (qwS s) [gV n, tV n, bV p n] = some (qwS s ++ [toS (bytesW s n)], [gV n, tV n, bV p n]) := by
  rw [qwbytes_cF]
  refine CFn.begin (n + 3) (by unfold manyK; omega) ?_
  refine Eq.trans (CFn.step _ rfl) ?_
  refine Eq.trans (evK_t false (Eq.trans (b := sev (.bin .eql) [.int .i64 (n : Int), .int .i64 0]) (by rw [← hm]; rfl) (eql_0 h1))) ?_
  rw [cond_false]
  refine Eq.trans (evK_e (rowI [s.x, s.y, s.d, s.m, s.r, 0, 0]) (lit_is _) rfl) ?_
  refine Eq.trans (evK_c _ _ rfl (qnums_F [s.x, s.y, s.d, s.m, s.r, 0, 0] (by simp))) ?_
  refine Eq.trans (evK_d (toS ([98, 103, 108, 49] ++ numsB [s.x, s.y, s.d, s.m, s.r, 0, 0])) (add_sev (l := [98, 103, 108, 49]) (by rw [numsB_len]; simp))) ?_
  have h := qwbytes_1 s p n hn n 0 (n + 2) (by omega) (by omega)
  rw [show slotsW 0 = [] from rfl, List.append_nil] at h
  exact h
end Go.Proofs.YtkgfckenobmleaaGreat.U
