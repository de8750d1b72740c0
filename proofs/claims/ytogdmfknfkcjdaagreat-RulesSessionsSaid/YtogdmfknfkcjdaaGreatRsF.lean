/- RulesSessions: what the law does ahead of its loop, at worlds of 1 to 64 bodies; where the loop is not entered. -/
import Derived.Test.YtogdmfknfkcjdaaGreatRsA
import Derived.Test.YtogdmfknfkcjdaaGreatAwakeP
namespace Go.Proofs.YtogdmfknfkcjdaaGreat.Rs
open Go Go.Eng Go.RowKit
def argK (k : Nat) : Value := .agg ⟨[sv 20, .bool false, sv 21, .bool false, sv 22, .bool false, iv k, sv 23]⟩
noncomputable def primsK (k : Nat) : PrimT := primOr (ansPrim 101 [argK k] (iv 0)) (ansPrim 102 [argK k] (iv 0))
noncomputable def callK [SymV] [SymT] (k : Nat) : CallT := callFF Tryz.prog ⟨552, 554, 386⟩ (primsK k) 100000 60
def tabK : List SRule := [.len false (sv 7) (sv 2), .bin .gtr (sv 2) (.int .i64 (.ofNat 12)) (.bool false)]
def tabG : List SRule := [.len false (sv 7) (sv 2), .bin .gtr (sv 2) (.int .i64 (.ofNat 12)) (.bool true)]
def b0 : Nat → Bool := fun _ => false
def argB (fx fy fd : Bool) : Value := .agg ⟨[sv 20, .bool fx, sv 21, .bool fy, sv 22, .bool fd, sv 24, sv 23]⟩
noncomputable def primsB (fx fy fd : Bool) : PrimT := primOr (ansPrim 101 [argB fx fy fd] (iv 3)) (primOr (ansPrim 102 [argB fx fy fd] (iv 3)) (prim1 12 primTrue))
def RunF (k : Nat) : Prop := ∀ (val : Nat → Value) (hi : ∀ n, isOneV (val n) = true) (ok : ∀ r ∈ tabK, r.good val) (u : Nat → Value), outs (@execL (.plain val hi) (@SymT.mk (.plain val hi) tabK ok) Tryz.prog ⟨552, 554, 386⟩ (@callK (.plain val hi) (@SymT.mk (.plain val hi) tabK ok) k) 100000 pre3 (mkF [(0, argK k), (1, sv 7)] u 96) (mem 1 memS)) [13, 12, 20] [5, 7, 1, 9] =
  some (.norm, 96, [some (.cells [pt 12]), some (.cells (pt 11 :: (opn b0 ++ [.slice none 0 0]))), some (.cells (pt 19 :: (opn b0 ++ [.slice none 0 0])))], [pt 13, pt 20, sv 7, .int .i64 (.ofNat 0)])
theorem pre_1 : RunF 1 := by intro val hi ok u; kernel_rfl
theorem pre_2 : RunF 2 := by intro val hi ok u; kernel_rfl
theorem pre_3 : RunF 3 := by intro val hi ok u; kernel_rfl
theorem pre_4 : RunF 4 := by intro val hi ok u; kernel_rfl
theorem pre_5 : RunF 5 := by intro val hi ok u; kernel_rfl
theorem pre_6 : RunF 6 := by intro val hi ok u; kernel_rfl
theorem pre_7 : RunF 7 := by intro val hi ok u; kernel_rfl
theorem pre_8 : RunF 8 := by intro val hi ok u; kernel_rfl
theorem pre_9 : RunF 9 := by intro val hi ok u; kernel_rfl
theorem pre_10 : RunF 10 := by intro val hi ok u; kernel_rfl
theorem pre_11 : RunF 11 := by intro val hi ok u; kernel_rfl
theorem pre_12 : RunF 12 := by intro val hi ok u; kernel_rfl
theorem pre_13 : RunF 13 := by intro val hi ok u; kernel_rfl
theorem pre_14 : RunF 14 := by intro val hi ok u; kernel_rfl
theorem pre_15 : RunF 15 := by intro val hi ok u; kernel_rfl
theorem pre_16 : RunF 16 := by intro val hi ok u; kernel_rfl
theorem pre_17 : RunF 17 := by intro val hi ok u; kernel_rfl
theorem pre_18 : RunF 18 := by intro val hi ok u; kernel_rfl
theorem pre_19 : RunF 19 := by intro val hi ok u; kernel_rfl
theorem pre_20 : RunF 20 := by intro val hi ok u; kernel_rfl
theorem pre_21 : RunF 21 := by intro val hi ok u; kernel_rfl
theorem pre_22 : RunF 22 := by intro val hi ok u; kernel_rfl
theorem pre_23 : RunF 23 := by intro val hi ok u; kernel_rfl
theorem pre_24 : RunF 24 := by intro val hi ok u; kernel_rfl
theorem pre_25 : RunF 25 := by intro val hi ok u; kernel_rfl
theorem pre_26 : RunF 26 := by intro val hi ok u; kernel_rfl
theorem pre_27 : RunF 27 := by intro val hi ok u; kernel_rfl
theorem pre_28 : RunF 28 := by intro val hi ok u; kernel_rfl
theorem pre_29 : RunF 29 := by intro val hi ok u; kernel_rfl
theorem pre_30 : RunF 30 := by intro val hi ok u; kernel_rfl
theorem pre_31 : RunF 31 := by intro val hi ok u; kernel_rfl
theorem pre_32 : RunF 32 := by intro val hi ok u; kernel_rfl
theorem pre_33 : RunF 33 := by intro val hi ok u; kernel_rfl
theorem pre_34 : RunF 34 := by intro val hi ok u; kernel_rfl
theorem pre_35 : RunF 35 := by intro val hi ok u; kernel_rfl
theorem pre_36 : RunF 36 := by intro val hi ok u; kernel_rfl
theorem pre_37 : RunF 37 := by intro val hi ok u; kernel_rfl
theorem pre_38 : RunF 38 := by intro val hi ok u; kernel_rfl
theorem pre_39 : RunF 39 := by intro val hi ok u; kernel_rfl
theorem pre_40 : RunF 40 := by intro val hi ok u; kernel_rfl
theorem pre_41 : RunF 41 := by intro val hi ok u; kernel_rfl
theorem pre_42 : RunF 42 := by intro val hi ok u; kernel_rfl
theorem pre_43 : RunF 43 := by intro val hi ok u; kernel_rfl
theorem pre_44 : RunF 44 := by intro val hi ok u; kernel_rfl
theorem pre_45 : RunF 45 := by intro val hi ok u; kernel_rfl
theorem pre_46 : RunF 46 := by intro val hi ok u; kernel_rfl
theorem pre_47 : RunF 47 := by intro val hi ok u; kernel_rfl
theorem pre_48 : RunF 48 := by intro val hi ok u; kernel_rfl
theorem pre_49 : RunF 49 := by intro val hi ok u; kernel_rfl
theorem pre_50 : RunF 50 := by intro val hi ok u; kernel_rfl
theorem pre_51 : RunF 51 := by intro val hi ok u; kernel_rfl
theorem pre_52 : RunF 52 := by intro val hi ok u; kernel_rfl
theorem pre_53 : RunF 53 := by intro val hi ok u; kernel_rfl
theorem pre_54 : RunF 54 := by intro val hi ok u; kernel_rfl
theorem pre_55 : RunF 55 := by intro val hi ok u; kernel_rfl
theorem pre_56 : RunF 56 := by intro val hi ok u; kernel_rfl
theorem pre_57 : RunF 57 := by intro val hi ok u; kernel_rfl
theorem pre_58 : RunF 58 := by intro val hi ok u; kernel_rfl
theorem pre_59 : RunF 59 := by intro val hi ok u; kernel_rfl
theorem pre_60 : RunF 60 := by intro val hi ok u; kernel_rfl
theorem pre_61 : RunF 61 := by intro val hi ok u; kernel_rfl
theorem pre_62 : RunF 62 := by intro val hi ok u; kernel_rfl
theorem pre_63 : RunF 63 := by intro val hi ok u; kernel_rfl
theorem pre_64 : RunF 64 := by intro val hi ok u; kernel_rfl
theorem preAll : ∀ k, 1 ≤ k → k ≤ 64 → RunF k
  | 1, _, _ => pre_1
  | 2, _, _ => pre_2
  | 3, _, _ => pre_3
  | 4, _, _ => pre_4
  | 5, _, _ => pre_5
  | 6, _, _ => pre_6
  | 7, _, _ => pre_7
  | 8, _, _ => pre_8
  | 9, _, _ => pre_9
  | 10, _, _ => pre_10
  | 11, _, _ => pre_11
  | 12, _, _ => pre_12
  | 13, _, _ => pre_13
  | 14, _, _ => pre_14
  | 15, _, _ => pre_15
  | 16, _, _ => pre_16
  | 17, _, _ => pre_17
  | 18, _, _ => pre_18
  | 19, _, _ => pre_19
  | 20, _, _ => pre_20
  | 21, _, _ => pre_21
  | 22, _, _ => pre_22
  | 23, _, _ => pre_23
  | 24, _, _ => pre_24
  | 25, _, _ => pre_25
  | 26, _, _ => pre_26
  | 27, _, _ => pre_27
  | 28, _, _ => pre_28
  | 29, _, _ => pre_29
  | 30, _, _ => pre_30
  | 31, _, _ => pre_31
  | 32, _, _ => pre_32
  | 33, _, _ => pre_33
  | 34, _, _ => pre_34
  | 35, _, _ => pre_35
  | 36, _, _ => pre_36
  | 37, _, _ => pre_37
  | 38, _, _ => pre_38
  | 39, _, _ => pre_39
  | 40, _, _ => pre_40
  | 41, _, _ => pre_41
  | 42, _, _ => pre_42
  | 43, _, _ => pre_43
  | 44, _, _ => pre_44
  | 45, _, _ => pre_45
  | 46, _, _ => pre_46
  | 47, _, _ => pre_47
  | 48, _, _ => pre_48
  | 49, _, _ => pre_49
  | 50, _, _ => pre_50
  | 51, _, _ => pre_51
  | 52, _, _ => pre_52
  | 53, _, _ => pre_53
  | 54, _, _ => pre_54
  | 55, _, _ => pre_55
  | 56, _, _ => pre_56
  | 57, _, _ => pre_57
  | 58, _, _ => pre_58
  | 59, _, _ => pre_59
  | 60, _, _ => pre_60
  | 61, _, _ => pre_61
  | 62, _, _ => pre_62
  | 63, _, _ => pre_63
  | 64, _, _ => pre_64
  | 0, h, _ => absurd h (by omega)
  | k + 65, _, h => absurd h (by omega)
theorem bigRun (val : Nat → Value) (hi : ∀ n, isOneV (val n) = true) (ok : ∀ r ∈ tabG, r.good val) (fx fy fd : Bool) : isVal (@callFF (.plain val hi) (@SymT.mk (.plain val hi) tabG ok) Tryz.prog ⟨552, 554, 386⟩ (prim1 12 primTrue) 100000 100 3 [argB fx fy fd, sv 7] (mem 1 memS)) (.bool true) = true := by kernel_rfl
theorem badRun_fff (val : Nat → Value) (hi : ∀ n, isOneV (val n) = true) (ok : ∀ r ∈ tabK, r.good val) : isVal (@callFF (.plain val hi) (@SymT.mk (.plain val hi) tabK ok) Tryz.prog ⟨552, 554, 386⟩ (primsB false false false) 100000 100 3 [argB false false false, sv 7] (mem 1 memS)) (.bool true) = true := by kernel_rfl
theorem badRun_fft (val : Nat → Value) (hi : ∀ n, isOneV (val n) = true) (ok : ∀ r ∈ tabK, r.good val) : isVal (@callFF (.plain val hi) (@SymT.mk (.plain val hi) tabK ok) Tryz.prog ⟨552, 554, 386⟩ (primsB false false true) 100000 100 3 [argB false false true, sv 7] (mem 1 memS)) (.bool true) = true := by kernel_rfl
theorem badRun_ftf (val : Nat → Value) (hi : ∀ n, isOneV (val n) = true) (ok : ∀ r ∈ tabK, r.good val) : isVal (@callFF (.plain val hi) (@SymT.mk (.plain val hi) tabK ok) Tryz.prog ⟨552, 554, 386⟩ (primsB false true false) 100000 100 3 [argB false true false, sv 7] (mem 1 memS)) (.bool true) = true := by kernel_rfl
theorem badRun_ftt (val : Nat → Value) (hi : ∀ n, isOneV (val n) = true) (ok : ∀ r ∈ tabK, r.good val) : isVal (@callFF (.plain val hi) (@SymT.mk (.plain val hi) tabK ok) Tryz.prog ⟨552, 554, 386⟩ (primsB false true true) 100000 100 3 [argB false true true, sv 7] (mem 1 memS)) (.bool true) = true := by kernel_rfl
theorem badRun_tff (val : Nat → Value) (hi : ∀ n, isOneV (val n) = true) (ok : ∀ r ∈ tabK, r.good val) : isVal (@callFF (.plain val hi) (@SymT.mk (.plain val hi) tabK ok) Tryz.prog ⟨552, 554, 386⟩ (primsB true false false) 100000 100 3 [argB true false false, sv 7] (mem 1 memS)) (.bool true) = true := by kernel_rfl
theorem badRun_tft (val : Nat → Value) (hi : ∀ n, isOneV (val n) = true) (ok : ∀ r ∈ tabK, r.good val) : isVal (@callFF (.plain val hi) (@SymT.mk (.plain val hi) tabK ok) Tryz.prog ⟨552, 554, 386⟩ (primsB true false true) 100000 100 3 [argB true false true, sv 7] (mem 1 memS)) (.bool true) = true := by kernel_rfl
theorem badRun_ttf (val : Nat → Value) (hi : ∀ n, isOneV (val n) = true) (ok : ∀ r ∈ tabK, r.good val) : isVal (@callFF (.plain val hi) (@SymT.mk (.plain val hi) tabK ok) Tryz.prog ⟨552, 554, 386⟩ (primsB true true false) 100000 100 3 [argB true true false, sv 7] (mem 1 memS)) (.bool true) = true := by kernel_rfl
theorem badRun_ttt (val : Nat → Value) (hi : ∀ n, isOneV (val n) = true) (ok : ∀ r ∈ tabK, r.good val) : isVal (@callFF (.plain val hi) (@SymT.mk (.plain val hi) tabK ok) Tryz.prog ⟨552, 554, 386⟩ (primsB true true true) 100000 100 3 [argB true true true, sv 7] (mem 1 memS)) (.bool true) = true := by kernel_rfl
end Go.Proofs.YtogdmfknfkcjdaaGreat.Rs
