/- Contracts of the functions that the law reaches. -/
import Derived.Test.YtbmbakmhnimkfaaGreatZAw
set_option linter.unusedSimpArgs false
set_option linter.unusedVariables false
namespace Go.Proofs.YtbmbakmhnimkfaaGreat.U
open Go Go.Eng
set_option maxRecDepth 100000
def rv (j i : Nat) (a : Sub) : Tr Lf := bif Nat.beq j i then .lf (.ret a) else .x
def rp (n : Nat) (v : Value) : List Value := List.replicate n v
def ub (l : List Nat) : List Value := l.map fun n => .int .u8 (.ofNat n)
def pp (n : Nat) : Value := .pointer (some ⟨n, 0, none⟩)
def nlS : Value := .slice none 0 0
def tt : Value := .bool true
def ff : Value := .bool false
def sm : Nat → Nat → List PB
  | _, 0 => []
  | a, n + 1 => .same a :: sm (Nat.succ a) n
def ne (n : Nat) : Nat → Nat → Tr Lf → Tr Lf
  | _, 0, T => T
  | a, k + 1, T => .t .eqi [sv n, .int .i64 (.ofNat a)] .x (ne n (Nat.succ a) k T)
noncomputable def mk (cs : List (Ctr Tryz.prog)) (F : CFn) (h1 : (patOK F.pre.mem && patOK F.post.mem && Nat.ble F.pre.mem.length F.post.mem.length && F.post.okR true) = true := by rfl) (h2 : ∀ u, F.okU cs ⟨252, 254, 367⟩ prA u = true := by intro u; kernel_rfl) (h3 : F.firstB Tryz.prog = true := by kernel_rfl) (h4 : F.first := by exact ⟨_, rfl, rfl, rfl, rfl, rfl, rfl⟩) (h5 : F.mode = 0 := by rfl) : Ctr Tryz.prog := CFn.ctr0 pok prA_ok cs F h1 h2 h3 h4 (.inl h5)
noncomputable def mkf (cs : List (Ctr Tryz.prog)) (F : CFn) (h1 : (patOK F.pre.mem && patOK F.post.mem && Nat.ble F.pre.mem.length F.post.mem.length && F.post.okR true) = true := by rfl) (h2 : ∀ u, F.okU cs ⟨252, 254, 367⟩ prA u = true := by intro u; kernel_rfl) (h3 : F.firstB Tryz.prog = true := by kernel_rfl) (h4 : F.first := by exact ⟨_, rfl, rfl, rfl, rfl, rfl, rfl⟩) (h5 : F.mode = 0 := by rfl) : Ctr Tryz.prog := Ctr.flatC (CFn.ctr0 pok prA_ok cs F h1 h2 h3 h4 (.inl h5))
def k0 : LB := .cells ([iv 1, iv 1, iv 10] ++ rp 8 (iv 0) ++ [nlS, iv 0, ff, iv 0, ff, iv 0, ff, iv 0, ff, iv 0, ff, iv 0, ff, iv 0, ff, iv 0, ff, iv 0, ff, iv 0, ff, iv 0, ff, iv 0, ff] ++ rp 9 (iv 0) ++ [iv 2, iv 1, iv 10, iv 1] ++ rp 7 (iv 0) ++ [nlS, iv 0, ff, iv 0, ff, iv 0, ff, iv 0, ff, iv 0, ff, iv 0, ff, iv 0, ff, iv 0, ff, iv 0, ff, iv 0, ff, iv 0, ff, iv 0, ff] ++ rp 9 (iv 0) ++ [iv 3, iv 1, iv 10, iv 2] ++ rp 7 (iv 0) ++ [nlS, iv 0, ff, iv 0, ff, iv 0, ff, iv 0, ff, iv 0, ff, iv 0, ff, iv 0, ff, iv 0, ff, iv 0, ff, iv 0, ff, iv 0, ff, iv 0, ff] ++ rp 9 (iv 0) ++ [iv 4, iv 1, iv 10, iv 3] ++ rp 7 (iv 0) ++ [nlS, iv 0, ff, iv 0, ff, iv 0, ff, iv 0, ff, iv 0, ff, iv 0, ff, iv 0, ff, iv 0, ff, iv 0, ff, iv 0, ff, iv 0, ff, iv 0, ff] ++ rp 9 (iv 0) ++ [iv 5, iv 1, iv 10, iv 4] ++ rp 7 (iv 0) ++ [nlS, iv 0, ff, iv 0, ff, iv 0, ff, iv 0, ff, iv 0, ff, iv 0, ff, iv 0, ff, iv 0, ff, iv 0, ff, iv 0, ff, iv 0, ff, iv 0, ff] ++ rp 9 (iv 0) ++ [iv 6, iv 1, iv 10, iv 5] ++ rp 7 (iv 0) ++ [nlS, iv 0, ff, iv 0, ff, iv 0, ff, iv 0, ff, iv 0, ff, iv 0, ff, iv 0, ff, iv 0, ff, iv 0, ff, iv 0, ff, iv 0, ff, iv 0, ff] ++ rp 9 (iv 0) ++ [iv 7, iv 1, iv 10, iv 6] ++ rp 7 (iv 0) ++ [nlS, iv 0, ff, iv 0, ff, iv 0, ff, iv 0, ff, iv 0, ff, iv 0, ff, iv 0, ff, iv 0, ff, iv 0, ff, iv 0, ff, iv 0, ff, iv 0, ff] ++ rp 9 (iv 0) ++ [iv 8, iv 1, iv 10, iv 7] ++ rp 7 (iv 0) ++ [nlS, iv 0, ff, iv 0, ff, iv 0, ff, iv 0, ff, iv 0, ff, iv 0, ff, iv 0, ff, iv 0, ff, iv 0, ff, iv 0, ff, iv 0, ff, iv 0, ff] ++ rp 9 (iv 0))
def k1 : LB := .cells ([iv 1, iv 1, iv 10] ++ rp 8 (iv 0) ++ [nlS, iv 0, ff, iv 0, ff, iv 0, ff, iv 0, ff, iv 0, ff, iv 0, ff, iv 0, ff, iv 0, ff, iv 0, ff, iv 0, ff, iv 0, ff, iv 0, ff] ++ rp 9 (iv 0) ++ [iv 2, iv 1, iv 10, iv 1] ++ rp 7 (iv 0) ++ [nlS, iv 0, ff, iv 0, ff, iv 0, ff, iv 0, ff, iv 0, ff, iv 0, ff, iv 0, ff, iv 0, ff, iv 0, ff, iv 0, ff, iv 0, ff, iv 0, ff] ++ rp 9 (iv 0) ++ [iv 3, iv 1, iv 10, iv 2] ++ rp 7 (iv 0) ++ [nlS, iv 0, ff, iv 0, ff, iv 0, ff, iv 0, ff, iv 0, ff, iv 0, ff, iv 0, ff, iv 0, ff, iv 0, ff, iv 0, ff, iv 0, ff, iv 0, ff] ++ rp 9 (iv 0) ++ [iv 4, iv 1, iv 10, iv 3] ++ rp 7 (iv 0) ++ [nlS, iv 0, ff, iv 0, ff, iv 0, ff, iv 0, ff, iv 0, ff, iv 0, ff, iv 0, ff, iv 0, ff, iv 0, ff, iv 0, ff, iv 0, ff, iv 0, ff] ++ rp 9 (iv 0) ++ [iv 5, iv 1, iv 10, iv 4] ++ rp 7 (iv 0) ++ [nlS, iv 0, ff, iv 0, ff, iv 0, ff, iv 0, ff, iv 0, ff, iv 0, ff, iv 0, ff, iv 0, ff, iv 0, ff, iv 0, ff, iv 0, ff, iv 0, ff] ++ rp 9 (iv 0) ++ [iv 6, iv 1, iv 10, iv 5] ++ rp 7 (iv 0) ++ [nlS, iv 0, ff, iv 0, ff, iv 0, ff, iv 0, ff, iv 0, ff, iv 0, ff, iv 0, ff, iv 0, ff, iv 0, ff, iv 0, ff, iv 0, ff, iv 0, ff] ++ rp 9 (iv 0) ++ [iv 7, iv 1, iv 10, iv 6] ++ rp 7 (iv 0) ++ [nlS, iv 0, ff, iv 0, ff, iv 0, ff, iv 0, ff, iv 0, ff, iv 0, ff, iv 0, ff, iv 0, ff, iv 0, ff, iv 0, ff, iv 0, ff, iv 0, ff] ++ rp 9 (iv 0))
def k2 : LB := .cells ([iv 1, iv 1, iv 10] ++ rp 8 (iv 0) ++ [nlS, iv 0, ff, iv 0, ff, iv 0, ff, iv 0, ff, iv 0, ff, iv 0, ff, iv 0, ff, iv 0, ff, iv 0, ff, iv 0, ff, iv 0, ff, iv 0, ff] ++ rp 9 (iv 0) ++ [iv 2, iv 1, iv 10, iv 1] ++ rp 7 (iv 0) ++ [nlS, iv 0, ff, iv 0, ff, iv 0, ff, iv 0, ff, iv 0, ff, iv 0, ff, iv 0, ff, iv 0, ff, iv 0, ff, iv 0, ff, iv 0, ff, iv 0, ff] ++ rp 9 (iv 0) ++ [iv 3, iv 1, iv 10, iv 2] ++ rp 7 (iv 0) ++ [nlS, iv 0, ff, iv 0, ff, iv 0, ff, iv 0, ff, iv 0, ff, iv 0, ff, iv 0, ff, iv 0, ff, iv 0, ff, iv 0, ff, iv 0, ff, iv 0, ff] ++ rp 9 (iv 0) ++ [iv 4, iv 1, iv 10, iv 3] ++ rp 7 (iv 0) ++ [nlS, iv 0, ff, iv 0, ff, iv 0, ff, iv 0, ff, iv 0, ff, iv 0, ff, iv 0, ff, iv 0, ff, iv 0, ff, iv 0, ff, iv 0, ff, iv 0, ff] ++ rp 9 (iv 0) ++ [iv 5, iv 1, iv 10, iv 4] ++ rp 7 (iv 0) ++ [nlS, iv 0, ff, iv 0, ff, iv 0, ff, iv 0, ff, iv 0, ff, iv 0, ff, iv 0, ff, iv 0, ff, iv 0, ff, iv 0, ff, iv 0, ff, iv 0, ff] ++ rp 9 (iv 0) ++ [iv 6, iv 1, iv 10, iv 5] ++ rp 7 (iv 0) ++ [nlS, iv 0, ff, iv 0, ff, iv 0, ff, iv 0, ff, iv 0, ff, iv 0, ff, iv 0, ff, iv 0, ff, iv 0, ff, iv 0, ff, iv 0, ff, iv 0, ff] ++ rp 9 (iv 0))
def k3 : LB := .cells ([iv 1, iv 1, iv 10] ++ rp 8 (iv 0) ++ [nlS, iv 0, ff, iv 0, ff, iv 0, ff, iv 0, ff, iv 0, ff, iv 0, ff, iv 0, ff, iv 0, ff, iv 0, ff, iv 0, ff, iv 0, ff, iv 0, ff] ++ rp 9 (iv 0) ++ [iv 2, iv 1, iv 10, iv 1] ++ rp 7 (iv 0) ++ [nlS, iv 0, ff, iv 0, ff, iv 0, ff, iv 0, ff, iv 0, ff, iv 0, ff, iv 0, ff, iv 0, ff, iv 0, ff, iv 0, ff, iv 0, ff, iv 0, ff] ++ rp 9 (iv 0) ++ [iv 3, iv 1, iv 10, iv 2] ++ rp 7 (iv 0) ++ [nlS, iv 0, ff, iv 0, ff, iv 0, ff, iv 0, ff, iv 0, ff, iv 0, ff, iv 0, ff, iv 0, ff, iv 0, ff, iv 0, ff, iv 0, ff, iv 0, ff] ++ rp 9 (iv 0) ++ [iv 4, iv 1, iv 10, iv 3] ++ rp 7 (iv 0) ++ [nlS, iv 0, ff, iv 0, ff, iv 0, ff, iv 0, ff, iv 0, ff, iv 0, ff, iv 0, ff, iv 0, ff, iv 0, ff, iv 0, ff, iv 0, ff, iv 0, ff] ++ rp 9 (iv 0) ++ [iv 5, iv 1, iv 10, iv 4] ++ rp 7 (iv 0) ++ [nlS, iv 0, ff, iv 0, ff, iv 0, ff, iv 0, ff, iv 0, ff, iv 0, ff, iv 0, ff, iv 0, ff, iv 0, ff, iv 0, ff, iv 0, ff, iv 0, ff] ++ rp 9 (iv 0))
def k4 : LB := .cells ([iv 1, iv 1, iv 10] ++ rp 8 (iv 0) ++ [nlS, iv 0, ff, iv 0, ff, iv 0, ff, iv 0, ff, iv 0, ff, iv 0, ff, iv 0, ff, iv 0, ff, iv 0, ff, iv 0, ff, iv 0, ff, iv 0, ff] ++ rp 9 (iv 0) ++ [iv 2, iv 1, iv 10, iv 1] ++ rp 7 (iv 0) ++ [nlS, iv 0, ff, iv 0, ff, iv 0, ff, iv 0, ff, iv 0, ff, iv 0, ff, iv 0, ff, iv 0, ff, iv 0, ff, iv 0, ff, iv 0, ff, iv 0, ff] ++ rp 9 (iv 0) ++ [iv 3, iv 1, iv 10, iv 2] ++ rp 7 (iv 0) ++ [nlS, iv 0, ff, iv 0, ff, iv 0, ff, iv 0, ff, iv 0, ff, iv 0, ff, iv 0, ff, iv 0, ff, iv 0, ff, iv 0, ff, iv 0, ff, iv 0, ff] ++ rp 9 (iv 0) ++ [iv 4, iv 1, iv 10, iv 3] ++ rp 7 (iv 0) ++ [nlS, iv 0, ff, iv 0, ff, iv 0, ff, iv 0, ff, iv 0, ff, iv 0, ff, iv 0, ff, iv 0, ff, iv 0, ff, iv 0, ff, iv 0, ff, iv 0, ff] ++ rp 9 (iv 0))
def k5 : LB := .cells ([iv 1, iv 1, iv 10] ++ rp 8 (iv 0) ++ [nlS, iv 0, ff, iv 0, ff, iv 0, ff, iv 0, ff, iv 0, ff, iv 0, ff, iv 0, ff, iv 0, ff, iv 0, ff, iv 0, ff, iv 0, ff, iv 0, ff] ++ rp 9 (iv 0) ++ [iv 2, iv 1, iv 10, iv 1] ++ rp 7 (iv 0) ++ [nlS, iv 0, ff, iv 0, ff, iv 0, ff, iv 0, ff, iv 0, ff, iv 0, ff, iv 0, ff, iv 0, ff, iv 0, ff, iv 0, ff, iv 0, ff, iv 0, ff] ++ rp 9 (iv 0) ++ [iv 3, iv 1, iv 10, iv 2] ++ rp 7 (iv 0) ++ [nlS, iv 0, ff, iv 0, ff, iv 0, ff, iv 0, ff, iv 0, ff, iv 0, ff, iv 0, ff, iv 0, ff, iv 0, ff, iv 0, ff, iv 0, ff, iv 0, ff] ++ rp 9 (iv 0))
def k6 : LB := .cells ([iv 1, iv 1, iv 10] ++ rp 8 (iv 0) ++ [nlS, iv 0, ff, iv 0, ff, iv 0, ff, iv 0, ff, iv 0, ff, iv 0, ff, iv 0, ff, iv 0, ff, iv 0, ff, iv 0, ff, iv 0, ff, iv 0, ff] ++ rp 9 (iv 0) ++ [iv 2, iv 1, iv 10, iv 1] ++ rp 7 (iv 0) ++ [nlS, iv 0, ff, iv 0, ff, iv 0, ff, iv 0, ff, iv 0, ff, iv 0, ff, iv 0, ff, iv 0, ff, iv 0, ff, iv 0, ff, iv 0, ff, iv 0, ff] ++ rp 9 (iv 0))
def k7 : LB := .cells ([iv 1, iv 1, iv 10] ++ rp 8 (iv 0) ++ [nlS, iv 0, ff, iv 0, ff, iv 0, ff, iv 0, ff, iv 0, ff, iv 0, ff, iv 0, ff, iv 0, ff, iv 0, ff, iv 0, ff, iv 0, ff, iv 0, ff] ++ rp 9 (iv 0))
def k8 : LB := .cells ([pp 28, pp 30] ++ svs 20 8 ++ [.chan (some 32), .chan (some 33), sv 28, sv 29])
def k9 : LB := .cells ([pp 26, pp 28] ++ svs 20 8 ++ [.chan (some 30), .chan (some 31), sv 28, sv 29])
def k10 : LB := .cells ([pp 24, pp 26] ++ svs 20 8 ++ [.chan (some 28), .chan (some 29), sv 28, sv 29])
def k11 : LB := .cells ([pp 22, pp 24] ++ svs 20 8 ++ [.chan (some 26), .chan (some 27), sv 28, sv 29])
def k12 : LB := .cells ([pp 29, pp 31] ++ svs 24 8 ++ [.chan (some 33), .chan (some 34), sv 32, sv 33])
def k13 : LB := .cells ([pp 27, pp 29] ++ svs 24 8 ++ [.chan (some 31), .chan (some 32), sv 32, sv 33])
def k14 : LB := .cells ([pp 25, pp 27] ++ svs 24 8 ++ [.chan (some 29), .chan (some 30), sv 32, sv 33])
def k15 : LB := .cells ([pp 23, pp 25] ++ svs 24 8 ++ [.chan (some 27), .chan (some 28), sv 32, sv 33])
def k16 : LB := .cells ([pp 3, pp 5] ++ svs 1 8 ++ [.chan (some 7), .chan (some 8), sv 9, sv 10])
def k17 : LB := .map [⟨iv 1, pp 12, 0⟩, ⟨iv 2, pp 15, 0⟩, ⟨iv 3, pp 17, 0⟩, ⟨iv 4, pp 19, 0⟩] 0
def k18 : LB := .map [⟨iv 1, pp 12, 0⟩, ⟨iv 2, pp 16, 0⟩, ⟨iv 3, pp 18, 0⟩, ⟨iv 4, pp 20, 0⟩] 0
def k19 : LB := .cells ([pp 6, pp 8] ++ svs 5 8 ++ [.chan (some 10), nlS, sv 13, sv 14])
def k20 : LB := .cells ([pp 3, pp 5] ++ svs 1 8 ++ [.chan (some 7), nlS, sv 9, sv 10])
def k21 : LB := .cells ([pp 26, ff] ++ rp 4 (tt) ++ rp 12 (ff) ++ [.chan (some 34)])
def k22 : LB := .cells ([pp 27, ff] ++ rp 4 (tt) ++ rp 12 (ff) ++ [.chan (some 35)])
def k23 : LB := .cells ([pp 24, ff, tt, tt, tt] ++ rp 13 (ff) ++ [.chan (some 32)])
def k24 : LB := .cells ([pp 25, ff, tt, tt, tt] ++ rp 13 (ff) ++ [.chan (some 33)])
def k25 : LB := .cells ([pp 22, ff, tt, tt] ++ rp 14 (ff) ++ [.chan (some 30)])
def k26 : LB := .cells ([pp 23, ff, tt, tt] ++ rp 14 (ff) ++ [.chan (some 31)])
def k27 : LB := .map [⟨iv 1, pp 12, 0⟩, ⟨iv 2, pp 15, 0⟩, ⟨iv 3, pp 17, 0⟩] 0
def k28 : LB := .map [⟨iv 1, pp 12, 0⟩, ⟨iv 2, pp 16, 0⟩, ⟨iv 3, pp 18, 0⟩] 0
def k29 : LB := .cells ([pp 20, ff, tt] ++ rp 15 (ff) ++ [.chan (some 28)])
def k30 : LB := .cells ([pp 21, ff, tt] ++ rp 15 (ff) ++ [.chan (some 29)])
def k31 : LB := .cells (ub [0, 0, 0, 5, 10] ++ rp 4 (.int .u8 (.ofNat 0)))
def k32 : LB := .cells ([pp 4, ff] ++ rp 4 (tt) ++ rp 12 (ff) ++ [nlS])
def k33 : LB := .cells ([pp 4, ff, tt, tt, tt] ++ rp 13 (ff) ++ [nlS])
def k34 : LB := .cells [tt, ff, .slice (some ⟨14, 9, some 1⟩) 0 0]
def k35 : LB := .cells ([pp 4, ff, tt, tt] ++ rp 14 (ff) ++ [nlS])
def k36 : LB := .cells ([pp 4, ff, tt] ++ rp 15 (ff) ++ [nlS])
def k37 : LB := .map [⟨iv 1, pp 12, 0⟩, ⟨iv 2, pp 15, 0⟩] 0
def k38 : LB := .map [⟨iv 1, pp 12, 0⟩, ⟨iv 2, pp 16, 0⟩] 0
def k39 : LB := .cells (ub [0, 0, 0, 5, 10, 0, 0, 0, 7])
def k40 : LB := .cells (ub [0, 0, 0, 5, 10, 0, 0, 0, 6])
def k41 : LB := .cells (ub [0, 0, 0, 5, 10, 0, 0, 0, 5])
def k42 : LB := .cells (ub [0, 0, 0, 5, 10, 0, 0, 0, 4])
def k43 : LB := .cells (ub [0, 0, 0, 5, 10, 0, 0, 0, 3])
def k44 : LB := .cells (ub [0, 0, 0, 5, 10, 0, 0, 0, 2])
def k45 : LB := .cells (ub [0, 0, 0, 5, 10, 0, 0, 0, 1])
def k46 : LB := .cells (ub [0, 0, 0, 5, 10] ++ svs 15 4)
def c32_a : Pat := ⟨[sv 0, sv 1], [], 2, 0⟩
def c32_z0 : Pat := ⟨[ag [iv 0, ff, sv 2, ff, iv 67108864, ff, sv 6, sv 7, iv 1, iv 1, sv 8]], [], 9, 0⟩
def c32_z1 : Pat := ⟨[ag [iv 0, ff, sv 2, ff, iv 67108864, ff, sv 6, sv 7, iv 1, iv 2, sv 8]], [], 9, 0⟩
def c32_z2 : Pat := ⟨[ag [iv 0, ff, sv 2, ff, iv 67108864, ff, sv 6, sv 7, iv 1, iv 3, sv 8]], [], 9, 0⟩
def c32_z3 : Pat := ⟨[ag [iv 0, ff, sv 2, ff, iv 67108864, ff, sv 6, sv 7, iv 1, iv 4, sv 8]], [], 9, 0⟩
def c32_z4 : Pat := ⟨[ag [iv 0, ff, sv 2, ff, iv 67108864, ff, sv 6, sv 7, iv 1, iv 5, sv 8]], [], 9, 0⟩
def c32_z5 : Pat := ⟨[ag [iv 0, ff, sv 2, ff, iv 67108864, ff, sv 6, sv 7, iv 1, iv 6, sv 8]], [], 9, 0⟩
def c32_z6 : Pat := ⟨[ag [iv 0, ff, sv 2, ff, iv 67108864, ff, sv 6, sv 7, iv 1, iv 7, sv 8]], [], 9, 0⟩
def c32_z7 : Pat := ⟨[ag [iv 0, ff, sv 2, ff, iv 67108864, ff, sv 6, sv 7, iv 1, iv 8, sv 8]], [], 9, 0⟩
def c32_z8 : Pat := ⟨[ag [iv 0, ff, sv 2, ff, iv 67108864, ff, sv 6, sv 7, iv 2, iv 1, sv 8]], [], 9, 0⟩
def c32_z9 : Pat := ⟨[ag [iv 0, ff, sv 2, ff, iv 67108864, ff, sv 6, sv 7, iv 2, iv 2, sv 8]], [], 9, 0⟩
def c32_z10 : Pat := ⟨[ag [iv 0, ff, sv 2, ff, iv 67108864, ff, sv 6, sv 7, iv 2, iv 3, sv 8]], [], 9, 0⟩
def c32_z11 : Pat := ⟨[ag [iv 0, ff, sv 2, ff, iv 67108864, ff, sv 6, sv 7, iv 2, iv 4, sv 8]], [], 9, 0⟩
def c32_z12 : Pat := ⟨[ag [iv 0, ff, sv 2, ff, iv 67108864, ff, sv 6, sv 7, iv 2, iv 5, sv 8]], [], 9, 0⟩
def c32_z13 : Pat := ⟨[ag [iv 0, ff, sv 2, ff, iv 67108864, ff, sv 6, sv 7, iv 2, iv 6, sv 8]], [], 9, 0⟩
def c32_z14 : Pat := ⟨[ag [iv 0, ff, sv 2, ff, iv 67108864, ff, sv 6, sv 7, iv 2, iv 7, sv 8]], [], 9, 0⟩
def c32_z15 : Pat := ⟨[ag [iv 0, ff, sv 2, ff, iv 67108864, ff, sv 6, sv 7, iv 2, iv 8, sv 8]], [], 9, 0⟩
def c32_z16 : Pat := ⟨[ag [iv 0, ff, sv 2, ff, iv 67108864, ff, sv 6, sv 7, iv 3, iv 1, sv 8]], [], 9, 0⟩
def c32_z17 : Pat := ⟨[ag [iv 0, ff, sv 2, ff, iv 67108864, ff, sv 6, sv 7, iv 3, iv 2, sv 8]], [], 9, 0⟩
def c32_z18 : Pat := ⟨[ag [iv 0, ff, sv 2, ff, iv 67108864, ff, sv 6, sv 7, iv 3, iv 3, sv 8]], [], 9, 0⟩
def c32_z19 : Pat := ⟨[ag [iv 0, ff, sv 2, ff, iv 67108864, ff, sv 6, sv 7, iv 3, iv 4, sv 8]], [], 9, 0⟩
def c32_z20 : Pat := ⟨[ag [iv 0, ff, sv 2, ff, iv 67108864, ff, sv 6, sv 7, iv 3, iv 5, sv 8]], [], 9, 0⟩
def c32_z21 : Pat := ⟨[ag [iv 0, ff, sv 2, ff, iv 67108864, ff, sv 6, sv 7, iv 3, iv 6, sv 8]], [], 9, 0⟩
def c32_z22 : Pat := ⟨[ag [iv 0, ff, sv 2, ff, iv 67108864, ff, sv 6, sv 7, iv 3, iv 7, sv 8]], [], 9, 0⟩
def c32_z23 : Pat := ⟨[ag [iv 0, ff, sv 2, ff, iv 67108864, ff, sv 6, sv 7, iv 3, iv 8, sv 8]], [], 9, 0⟩
def c32_z24 : Pat := ⟨[ag [iv 0, ff, sv 2, ff, iv 67108864, ff, sv 6, sv 7, iv 4, iv 1, sv 8]], [], 9, 0⟩
def c32_z25 : Pat := ⟨[ag [iv 0, ff, sv 2, ff, iv 67108864, ff, sv 6, sv 7, iv 4, iv 2, sv 8]], [], 9, 0⟩
def c32_z26 : Pat := ⟨[ag [iv 0, ff, sv 2, ff, iv 67108864, ff, sv 6, sv 7, iv 4, iv 3, sv 8]], [], 9, 0⟩
def c32_z27 : Pat := ⟨[ag [iv 0, ff, sv 2, ff, iv 67108864, ff, sv 6, sv 7, iv 4, iv 4, sv 8]], [], 9, 0⟩
def c32_z28 : Pat := ⟨[ag [iv 0, ff, sv 2, ff, iv 67108864, ff, sv 6, sv 7, iv 4, iv 5, sv 8]], [], 9, 0⟩
def c32_z29 : Pat := ⟨[ag [iv 0, ff, sv 2, ff, iv 67108864, ff, sv 6, sv 7, iv 4, iv 6, sv 8]], [], 9, 0⟩
def c32_z30 : Pat := ⟨[ag [iv 0, ff, sv 2, ff, iv 67108864, ff, sv 6, sv 7, iv 4, iv 7, sv 8]], [], 9, 0⟩
def c32_z31 : Pat := ⟨[ag [iv 0, ff, sv 2, ff, iv 67108864, ff, sv 6, sv 7, iv 4, iv 8, sv 8]], [], 9, 0⟩
def c32_T0 (j : Nat) : Tr Lf := .d (.conv .u64) [sv 0] (.d (.bin .rem) [sv 2, .int .u64 (.ofNat 4)] (.d (.bin .quo) [sv 2, .int .u64 (.ofNat 4)] (.d (.bin .mul) [sv 4, .int .u64 (.ofNat 6364136223846793005)] (.d (.bin .rem) [sv 2, .int .u64 (.ofNat 1000003)] (.d (.bin .add) [sv 5, sv 6] (.d (.conv .i64) [sv 3] (.d (.bin .add) [iv 1, sv 8] (.d (.bin .rem) [sv 7, .int .u64 (.ofNat 8)] (.d (.bin .quo) [sv 7, .int .u64 (.ofNat 8)] (.d (.bin .mul) [sv 11, .int .u64 (.ofNat 6364136223846793005)] (.d (.bin .rem) [sv 7, .int .u64 (.ofNat 1000003)] (.d (.bin .add) [sv 12, sv 13] (.d (.conv .i64) [sv 10] (.d (.bin .add) [iv 1, sv 15] (.d (.bin .rem) [sv 14, .int .u64 (.ofNat 6)] (.d (.bin .quo) [sv 14, .int .u64 (.ofNat 6)] (.d (.bin .mul) [sv 18, .int .u64 (.ofNat 6364136223846793005)] (.d (.bin .rem) [sv 14, .int .u64 (.ofNat 1000003)] (.d (.bin .add) [sv 19, sv 20] (.d (.conv .i64) [sv 17] (.d (.bin .add) [iv 1, sv 22] (.d (.bin .rem) [sv 21, .int .u64 (.ofNat 4)] (.d (.bin .quo) [sv 21, .int .u64 (.ofNat 4)] (.d (.bin .mul) [sv 25, .int .u64 (.ofNat 6364136223846793005)] (.d (.bin .rem) [sv 21, .int .u64 (.ofNat 1000003)] (.d (.bin .add) [sv 26, sv 27] (.d (.conv .i64) [sv 24] (.d (.bin .add) [iv 1, sv 29] (.d (.bin .rem) [sv 28, .int .u64 (.ofNat 2)] (.d (.bin .quo) [sv 28, .int .u64 (.ofNat 2)] (.d (.bin .mul) [sv 32, .int .u64 (.ofNat 6364136223846793005)] (.d (.bin .rem) [sv 28, .int .u64 (.ofNat 1000003)] (.d (.bin .add) [sv 33, sv 34] (.d (.conv .i64) [sv 31] (.t (.bin .eql) [sv 36, iv 1] (.t .eqi [sv 9, iv 1] (.t .eqi [sv 16, iv 1] (rv j 0 ⟨[iv 0, ff, nv 34359738367, ff, iv 67108864, ff, sv 23, sv 30, sv 1], [], [], [], true⟩) (.t .eqi [sv 16, iv 2] (rv j 1 ⟨[iv 0, ff, nv 34359738367, ff, iv 67108864, ff, sv 23, sv 30, sv 1], [], [], [], true⟩) (.t .eqi [sv 16, iv 3] (rv j 2 ⟨[iv 0, ff, nv 34359738367, ff, iv 67108864, ff, sv 23, sv 30, sv 1], [], [], [], true⟩) (.t .eqi [sv 16, iv 4] (rv j 3 ⟨[iv 0, ff, nv 34359738367, ff, iv 67108864, ff, sv 23, sv 30, sv 1], [], [], [], true⟩) (.t .eqi [sv 16, iv 5] (rv j 4 ⟨[iv 0, ff, nv 34359738367, ff, iv 67108864, ff, sv 23, sv 30, sv 1], [], [], [], true⟩) (.t .eqi [sv 16, iv 6] (rv j 5 ⟨[iv 0, ff, nv 34359738367, ff, iv 67108864, ff, sv 23, sv 30, sv 1], [], [], [], true⟩) (.t .eqi [sv 16, iv 7] (rv j 6 ⟨[iv 0, ff, nv 34359738367, ff, iv 67108864, ff, sv 23, sv 30, sv 1], [], [], [], true⟩) (.t .eqi [sv 16, iv 8] (rv j 7 ⟨[iv 0, ff, nv 34359738367, ff, iv 67108864, ff, sv 23, sv 30, sv 1], [], [], [], true⟩) (.x))))))))) (.t .eqi [sv 9, iv 2] (.t .eqi [sv 16, iv 1] (rv j 8 ⟨[iv 0, ff, nv 34359738367, ff, iv 67108864, ff, sv 23, sv 30, sv 1], [], [], [], true⟩) (.t .eqi [sv 16, iv 2] (rv j 9 ⟨[iv 0, ff, nv 34359738367, ff, iv 67108864, ff, sv 23, sv 30, sv 1], [], [], [], true⟩) (.t .eqi [sv 16, iv 3] (rv j 10 ⟨[iv 0, ff, nv 34359738367, ff, iv 67108864, ff, sv 23, sv 30, sv 1], [], [], [], true⟩) (.t .eqi [sv 16, iv 4] (rv j 11 ⟨[iv 0, ff, nv 34359738367, ff, iv 67108864, ff, sv 23, sv 30, sv 1], [], [], [], true⟩) (.t .eqi [sv 16, iv 5] (rv j 12 ⟨[iv 0, ff, nv 34359738367, ff, iv 67108864, ff, sv 23, sv 30, sv 1], [], [], [], true⟩) (.t .eqi [sv 16, iv 6] (rv j 13 ⟨[iv 0, ff, nv 34359738367, ff, iv 67108864, ff, sv 23, sv 30, sv 1], [], [], [], true⟩) (.t .eqi [sv 16, iv 7] (rv j 14 ⟨[iv 0, ff, nv 34359738367, ff, iv 67108864, ff, sv 23, sv 30, sv 1], [], [], [], true⟩) (.t .eqi [sv 16, iv 8] (rv j 15 ⟨[iv 0, ff, nv 34359738367, ff, iv 67108864, ff, sv 23, sv 30, sv 1], [], [], [], true⟩) (.x))))))))) (.t .eqi [sv 9, iv 3] (.t .eqi [sv 16, iv 1] (rv j 16 ⟨[iv 0, ff, nv 34359738367, ff, iv 67108864, ff, sv 23, sv 30, sv 1], [], [], [], true⟩) (.t .eqi [sv 16, iv 2] (rv j 17 ⟨[iv 0, ff, nv 34359738367, ff, iv 67108864, ff, sv 23, sv 30, sv 1], [], [], [], true⟩) (.t .eqi [sv 16, iv 3] (rv j 18 ⟨[iv 0, ff, nv 34359738367, ff, iv 67108864, ff, sv 23, sv 30, sv 1], [], [], [], true⟩) (.t .eqi [sv 16, iv 4] (rv j 19 ⟨[iv 0, ff, nv 34359738367, ff, iv 67108864, ff, sv 23, sv 30, sv 1], [], [], [], true⟩) (.t .eqi [sv 16, iv 5] (rv j 20 ⟨[iv 0, ff, nv 34359738367, ff, iv 67108864, ff, sv 23, sv 30, sv 1], [], [], [], true⟩) (.t .eqi [sv 16, iv 6] (rv j 21 ⟨[iv 0, ff, nv 34359738367, ff, iv 67108864, ff, sv 23, sv 30, sv 1], [], [], [], true⟩) (.t .eqi [sv 16, iv 7] (rv j 22 ⟨[iv 0, ff, nv 34359738367, ff, iv 67108864, ff, sv 23, sv 30, sv 1], [], [], [], true⟩) (.t .eqi [sv 16, iv 8] (rv j 23 ⟨[iv 0, ff, nv 34359738367, ff, iv 67108864, ff, sv 23, sv 30, sv 1], [], [], [], true⟩) (.x))))))))) (.t .eqi [sv 9, iv 4] (.t .eqi [sv 16, iv 1] (rv j 24 ⟨[iv 0, ff, nv 34359738367, ff, iv 67108864, ff, sv 23, sv 30, sv 1], [], [], [], true⟩) (.t .eqi [sv 16, iv 2] (rv j 25 ⟨[iv 0, ff, nv 34359738367, ff, iv 67108864, ff, sv 23, sv 30, sv 1], [], [], [], true⟩) (.t .eqi [sv 16, iv 3] (rv j 26 ⟨[iv 0, ff, nv 34359738367, ff, iv 67108864, ff, sv 23, sv 30, sv 1], [], [], [], true⟩) (.t .eqi [sv 16, iv 4] (rv j 27 ⟨[iv 0, ff, nv 34359738367, ff, iv 67108864, ff, sv 23, sv 30, sv 1], [], [], [], true⟩) (.t .eqi [sv 16, iv 5] (rv j 28 ⟨[iv 0, ff, nv 34359738367, ff, iv 67108864, ff, sv 23, sv 30, sv 1], [], [], [], true⟩) (.t .eqi [sv 16, iv 6] (rv j 29 ⟨[iv 0, ff, nv 34359738367, ff, iv 67108864, ff, sv 23, sv 30, sv 1], [], [], [], true⟩) (.t .eqi [sv 16, iv 7] (rv j 30 ⟨[iv 0, ff, nv 34359738367, ff, iv 67108864, ff, sv 23, sv 30, sv 1], [], [], [], true⟩) (.t .eqi [sv 16, iv 8] (rv j 31 ⟨[iv 0, ff, nv 34359738367, ff, iv 67108864, ff, sv 23, sv 30, sv 1], [], [], [], true⟩) (.x))))))))) (.x))))) (.t .eqi [sv 9, iv 1] (.t .eqi [sv 16, iv 1] (rv j 0 ⟨[iv 0, ff, iv 0, ff, iv 67108864, ff, sv 23, sv 30, sv 1], [], [], [], true⟩) (.t .eqi [sv 16, iv 2] (rv j 1 ⟨[iv 0, ff, iv 0, ff, iv 67108864, ff, sv 23, sv 30, sv 1], [], [], [], true⟩) (.t .eqi [sv 16, iv 3] (rv j 2 ⟨[iv 0, ff, iv 0, ff, iv 67108864, ff, sv 23, sv 30, sv 1], [], [], [], true⟩) (.t .eqi [sv 16, iv 4] (rv j 3 ⟨[iv 0, ff, iv 0, ff, iv 67108864, ff, sv 23, sv 30, sv 1], [], [], [], true⟩) (.t .eqi [sv 16, iv 5] (rv j 4 ⟨[iv 0, ff, iv 0, ff, iv 67108864, ff, sv 23, sv 30, sv 1], [], [], [], true⟩) (.t .eqi [sv 16, iv 6] (rv j 5 ⟨[iv 0, ff, iv 0, ff, iv 67108864, ff, sv 23, sv 30, sv 1], [], [], [], true⟩) (.t .eqi [sv 16, iv 7] (rv j 6 ⟨[iv 0, ff, iv 0, ff, iv 67108864, ff, sv 23, sv 30, sv 1], [], [], [], true⟩) (.t .eqi [sv 16, iv 8] (rv j 7 ⟨[iv 0, ff, iv 0, ff, iv 67108864, ff, sv 23, sv 30, sv 1], [], [], [], true⟩) (.x))))))))) (.t .eqi [sv 9, iv 2] (.t .eqi [sv 16, iv 1] (rv j 8 ⟨[iv 0, ff, iv 0, ff, iv 67108864, ff, sv 23, sv 30, sv 1], [], [], [], true⟩) (.t .eqi [sv 16, iv 2] (rv j 9 ⟨[iv 0, ff, iv 0, ff, iv 67108864, ff, sv 23, sv 30, sv 1], [], [], [], true⟩) (.t .eqi [sv 16, iv 3] (rv j 10 ⟨[iv 0, ff, iv 0, ff, iv 67108864, ff, sv 23, sv 30, sv 1], [], [], [], true⟩) (.t .eqi [sv 16, iv 4] (rv j 11 ⟨[iv 0, ff, iv 0, ff, iv 67108864, ff, sv 23, sv 30, sv 1], [], [], [], true⟩) (.t .eqi [sv 16, iv 5] (rv j 12 ⟨[iv 0, ff, iv 0, ff, iv 67108864, ff, sv 23, sv 30, sv 1], [], [], [], true⟩) (.t .eqi [sv 16, iv 6] (rv j 13 ⟨[iv 0, ff, iv 0, ff, iv 67108864, ff, sv 23, sv 30, sv 1], [], [], [], true⟩) (.t .eqi [sv 16, iv 7] (rv j 14 ⟨[iv 0, ff, iv 0, ff, iv 67108864, ff, sv 23, sv 30, sv 1], [], [], [], true⟩) (.t .eqi [sv 16, iv 8] (rv j 15 ⟨[iv 0, ff, iv 0, ff, iv 67108864, ff, sv 23, sv 30, sv 1], [], [], [], true⟩) (.x))))))))) (.t .eqi [sv 9, iv 3] (.t .eqi [sv 16, iv 1] (rv j 16 ⟨[iv 0, ff, iv 0, ff, iv 67108864, ff, sv 23, sv 30, sv 1], [], [], [], true⟩) (.t .eqi [sv 16, iv 2] (rv j 17 ⟨[iv 0, ff, iv 0, ff, iv 67108864, ff, sv 23, sv 30, sv 1], [], [], [], true⟩) (.t .eqi [sv 16, iv 3] (rv j 18 ⟨[iv 0, ff, iv 0, ff, iv 67108864, ff, sv 23, sv 30, sv 1], [], [], [], true⟩) (.t .eqi [sv 16, iv 4] (rv j 19 ⟨[iv 0, ff, iv 0, ff, iv 67108864, ff, sv 23, sv 30, sv 1], [], [], [], true⟩) (.t .eqi [sv 16, iv 5] (rv j 20 ⟨[iv 0, ff, iv 0, ff, iv 67108864, ff, sv 23, sv 30, sv 1], [], [], [], true⟩) (.t .eqi [sv 16, iv 6] (rv j 21 ⟨[iv 0, ff, iv 0, ff, iv 67108864, ff, sv 23, sv 30, sv 1], [], [], [], true⟩) (.t .eqi [sv 16, iv 7] (rv j 22 ⟨[iv 0, ff, iv 0, ff, iv 67108864, ff, sv 23, sv 30, sv 1], [], [], [], true⟩) (.t .eqi [sv 16, iv 8] (rv j 23 ⟨[iv 0, ff, iv 0, ff, iv 67108864, ff, sv 23, sv 30, sv 1], [], [], [], true⟩) (.x))))))))) (.t .eqi [sv 9, iv 4] (.t .eqi [sv 16, iv 1] (rv j 24 ⟨[iv 0, ff, iv 0, ff, iv 67108864, ff, sv 23, sv 30, sv 1], [], [], [], true⟩) (.t .eqi [sv 16, iv 2] (rv j 25 ⟨[iv 0, ff, iv 0, ff, iv 67108864, ff, sv 23, sv 30, sv 1], [], [], [], true⟩) (.t .eqi [sv 16, iv 3] (rv j 26 ⟨[iv 0, ff, iv 0, ff, iv 67108864, ff, sv 23, sv 30, sv 1], [], [], [], true⟩) (.t .eqi [sv 16, iv 4] (rv j 27 ⟨[iv 0, ff, iv 0, ff, iv 67108864, ff, sv 23, sv 30, sv 1], [], [], [], true⟩) (.t .eqi [sv 16, iv 5] (rv j 28 ⟨[iv 0, ff, iv 0, ff, iv 67108864, ff, sv 23, sv 30, sv 1], [], [], [], true⟩) (.t .eqi [sv 16, iv 6] (rv j 29 ⟨[iv 0, ff, iv 0, ff, iv 67108864, ff, sv 23, sv 30, sv 1], [], [], [], true⟩) (.t .eqi [sv 16, iv 7] (rv j 30 ⟨[iv 0, ff, iv 0, ff, iv 67108864, ff, sv 23, sv 30, sv 1], [], [], [], true⟩) (.t .eqi [sv 16, iv 8] (rv j 31 ⟨[iv 0, ff, iv 0, ff, iv 67108864, ff, sv 23, sv 30, sv 1], [], [], [], true⟩) (.x))))))))) (.x))))))))))))))))))))))))))))))))))))))))
def c32_f (j : Nat) (z : Pat) : CFn := ⟨32, c32_a, z, [⟨none, numA 0 c32_a.vs, c32_a.mem, 2, 0, c32_T0 j⟩], 0⟩
noncomputable def c32v0_c := mk [] (c32_f 0 c32_z0)
noncomputable def c32v1_c := mk [] (c32_f 1 c32_z1)
noncomputable def c32v2_c := mk [] (c32_f 2 c32_z2)
noncomputable def c32v3_c := mk [] (c32_f 3 c32_z3)
noncomputable def c32v4_c := mk [] (c32_f 4 c32_z4)
noncomputable def c32v5_c := mk [] (c32_f 5 c32_z5)
noncomputable def c32v6_c := mk [] (c32_f 6 c32_z6)
noncomputable def c32v7_c := mk [] (c32_f 7 c32_z7)
noncomputable def c32v8_c := mk [] (c32_f 8 c32_z8)
noncomputable def c32v9_c := mk [] (c32_f 9 c32_z9)
noncomputable def c32v10_c := mk [] (c32_f 10 c32_z10)
noncomputable def c32v11_c := mk [] (c32_f 11 c32_z11)
noncomputable def c32v12_c := mk [] (c32_f 12 c32_z12)
noncomputable def c32v13_c := mk [] (c32_f 13 c32_z13)
noncomputable def c32v14_c := mk [] (c32_f 14 c32_z14)
noncomputable def c32v15_c := mk [] (c32_f 15 c32_z15)
noncomputable def c32v16_c := mk [] (c32_f 16 c32_z16)
noncomputable def c32v17_c := mk [] (c32_f 17 c32_z17)
noncomputable def c32v18_c := mk [] (c32_f 18 c32_z18)
noncomputable def c32v19_c := mk [] (c32_f 19 c32_z19)
noncomputable def c32v20_c := mk [] (c32_f 20 c32_z20)
noncomputable def c32v21_c := mk [] (c32_f 21 c32_z21)
noncomputable def c32v22_c := mk [] (c32_f 22 c32_z22)
noncomputable def c32v23_c := mk [] (c32_f 23 c32_z23)
noncomputable def c32v24_c := mk [] (c32_f 24 c32_z24)
noncomputable def c32v25_c := mk [] (c32_f 25 c32_z25)
noncomputable def c32v26_c := mk [] (c32_f 26 c32_z26)
noncomputable def c32v27_c := mk [] (c32_f 27 c32_z27)
noncomputable def c32v28_c := mk [] (c32_f 28 c32_z28)
noncomputable def c32v29_c := mk [] (c32_f 29 c32_z29)
noncomputable def c32v30_c := mk [] (c32_f 30 c32_z30)
noncomputable def c32v31_c := mk [] (c32_f 31 c32_z31)

def c190_a : Pat := ⟨[sv 0], [], 1, 0⟩
def c190_z0 : Pat := ⟨[ag [ff, sv 1, .int .u64 (.ofNat 0)]], [], 3, 0⟩
def c190_T0 (j : Nat) : Tr Lf := .t (.bin .lss) [sv 0, iv 0] (.x) (.d (.conv .u64) [sv 0] (rv j 0 ⟨[ff, sv 1, .int .u64 (.ofNat 0)], [], [], [], true⟩))
def c190_f (j : Nat) (z : Pat) : CFn := ⟨190, c190_a, z, [⟨none, numA 0 c190_a.vs, c190_a.mem, 1, 0, c190_T0 j⟩], 0⟩
noncomputable def c190_c := mk [] (c190_f 0 c190_z0)

def c192_a : Pat := ⟨(svs 0 3), [], 3, 0⟩
def c192_z0 : Pat := ⟨[sv 0, sv 1], [], 2, 0⟩
def c192_T0 (j : Nat) : Tr Lf := .t (.bin .eql) [sv 2, .int .u64 (.ofNat 0)] (.x) (.t (.bin .leq) [sv 2, sv 0] (.x) (.t (.bin .eql) [sv 0, .int .u64 (.ofNat 0)] (.d (.bin .quo) [sv 1, sv 2] (.d (.bin .rem) [sv 1, sv 2] (rv j 0 ⟨[sv 3, sv 4], [], [], [], true⟩))) (.x)))
def c192_f (j : Nat) (z : Pat) : CFn := ⟨192, c192_a, z, [⟨none, numA 0 c192_a.vs, c192_a.mem, 3, 0, c192_T0 j⟩], 0⟩
noncomputable def c192_c := mk [] (c192_f 0 c192_z0)

def c193_a : Pat := ⟨[ag (svs 0 3), sv 3], [], 4, 0⟩
def c193_z0 : Pat := ⟨[ag [sv 0, sv 1]], [], 2, 0⟩
def c193_T0 (j : Nat) : Tr Lf := .t (.bin .eql) [sv 2, .int .u64 (.ofNat 0)] (.t (.bin .leq) [sv 1, .int .u64 (.ofNat 9223372036854775807)] (.d (.conv .i64) [sv 1] (.t .truth [sv 0] (.x) (rv j 0 ⟨[sv 4, sv 3], [], [], [], true⟩))) (.x)) (.x)
def c193_f (j : Nat) (z : Pat) : CFn := ⟨193, c193_a, z, [⟨none, numA 0 c193_a.vs, c193_a.mem, 4, 0, c193_T0 j⟩], 0⟩
noncomputable def c193_c := mk [] (c193_f 0 c193_z0)

def c110_a : Pat := ⟨[sv 0, sv 1], [], 2, 0⟩
def c110_z0 : Pat := ⟨[ag [sv 0, sv 1]], [], 2, 0⟩
def c110_T0 (j : Nat) : Tr Lf := .t (.bin .eql) [sv 1, iv 0] (.x) (.c 0 ⟨[sv 0], [], [], [], true⟩ (.d (.bin .shl) [sv 3, .int .u64 (.ofNat 32)] (.d (.bin .shr) [sv 3, .int .u64 (.ofNat 32)] (.d (.bin .or) [.int .u64 (.ofNat 0), sv 6] (.c 0 ⟨[sv 1], [], [], [], true⟩ (.d (.bin .quo) [sv 7, sv 9] (.d (.bin .rem) [sv 7, sv 9] (.c 1 ⟨[sv 12, sv 5, sv 9], [], [], [], true⟩ (.c 2 ⟨[ff, sv 13, sv 11, ff], [], [], [], true⟩ (rv j 0 ⟨[sv 15, sv 16], [], [], [], true⟩))))))))))
def c110_f (j : Nat) (z : Pat) : CFn := ⟨110, c110_a, z, [⟨none, numA 0 c110_a.vs, c110_a.mem, 2, 0, c110_T0 j⟩], 0⟩
noncomputable def c110_c := mk [c190_c, c192_c, c193_c] (c110_f 0 c110_z0)

def c189_a : Pat := ⟨[ag [sv 0, sv 1]], [], 2, 0⟩
def c189_z0 : Pat := ⟨[ag [sv 0, sv 1]], [], 2, 0⟩
def c189_T0 (j : Nat) : Tr Lf := .t (.bin .eql) [sv 0, nv 9223372036854775807] (.x) (rv j 0 ⟨[sv 0, sv 1], [], [], [], true⟩)
def c189_f (j : Nat) (z : Pat) : CFn := ⟨189, c189_a, z, [⟨none, numA 0 c189_a.vs, c189_a.mem, 2, 0, c189_T0 j⟩], 0⟩
noncomputable def c189_c := mk [] (c189_f 0 c189_z0)

def c188_a : Pat := ⟨[sv 0, sv 1], [], 2, 0⟩
def c188_z0 : Pat := ⟨[sv 0], [], 1, 0⟩
def c188_T0 (j : Nat) : Tr Lf := .t (.bin .neq) [sv 0, sv 0] (.x) (.t (.bin .neq) [sv 1, sv 1] (.x) (.t (.bin .lss) [sv 0, sv 1] (rv j 0 ⟨[nv 0], [], [], [], true⟩) (.t (.bin .gtr) [sv 0, sv 1] (rv j 0 ⟨[iv 1], [], [], [], true⟩) (rv j 0 ⟨[iv 0], [], [], [], true⟩))))
def c188_f (j : Nat) (z : Pat) : CFn := ⟨188, c188_a, z, [⟨none, numA 0 c188_a.vs, c188_a.mem, 2, 0, c188_T0 j⟩], 0⟩
noncomputable def c188_c := mk [] (c188_f 0 c188_z0)

def c198_a : Pat := ⟨[.slice (some ⟨1, 0, none⟩) 2 2], [.cells (svs 0 4)], 4, 0⟩
def c198_z0 : Pat := ⟨[.slice (some ⟨2, 0, none⟩) 2 2, sv 6], [.cells (svs 0 4), .cells [sv 4, sv 5]], 7, 0⟩
def c198_T0 (j : Nat) : Tr Lf := .c 0 ⟨[sv 0, sv 1], [], [], [], true⟩ (.c 0 ⟨[sv 2, sv 3], [], [], [], true⟩ (.t .truth [sv 5] (.x) (rv j 0 ⟨(svs 0 5 ++ [sv 6, sv 7]), [], [.same 1, .same 2], [], true⟩)))
def c198_f (j : Nat) (z : Pat) : CFn := ⟨198, c198_a, z, [⟨none, numA 0 c198_a.vs, c198_a.mem, 4, 0, c198_T0 j⟩], 0⟩
noncomputable def c198_c := mk [c189_c] (c198_f 0 c198_z0)

def c318_a : Pat := ⟨[sv 0, sv 1, .slice (some ⟨1, 1, none⟩) 1 1], [.cells [sv 2, sv 3]], 4, 0⟩
def c318_z0 : Pat := ⟨[sv 2], [.cells [sv 0, sv 1]], 3, 0⟩
def c318_T0 (j : Nat) : Tr Lf := .c 0 ⟨[sv 3, sv 1], [], [], [], true⟩ (.d (.bin .mul) [sv 4, sv 0] (.t (.bin .lss) [sv 5, iv 0] (rv j 0 ⟨[sv 2, sv 3, sv 3], [], [.same 1], [], true⟩) (rv j 0 ⟨[sv 2, sv 3, sv 1], [], [.same 1], [], true⟩)))
def c318_f (j : Nat) (z : Pat) : CFn := ⟨318, c318_a, z, [⟨none, numA 0 c318_a.vs, c318_a.mem, 4, 0, c318_T0 j⟩], 0⟩
noncomputable def c318_c := mk [c188_c] (c318_f 0 c318_z0)

def c204_a : Pat := ⟨[sv 0, .slice (some ⟨1, 0, none⟩) 2 2], [.cells (svs 1 4)], 5, 0⟩
def c204_z0 : Pat := ⟨[ag [sv 4, sv 5]], [.cells (svs 0 4)], 6, 0⟩
def c204_T0 (j : Nat) : Tr Lf := .c 0 ⟨(svs 1 4), [], [.same 1], [], true⟩ (.c 1 ⟨[sv 0, sv 9, sv 9, sv 10], [], [.same 3], [], true⟩ (rv j 0 ⟨(svs 5 4 ++ [sv 14, sv 11]), [], [.same 1], [], true⟩))
def c204_f (j : Nat) (z : Pat) : CFn := ⟨204, c204_a, z, [⟨none, numA 0 c204_a.vs, c204_a.mem, 5, 0, c204_T0 j⟩], 0⟩
noncomputable def c204_c := mk [c198_c, c318_c] (c204_f 0 c204_z0)

def c64_a : Pat := ⟨[sv 0, .slice (some ⟨1, 0, none⟩) 1 1], [.cells (svs 1 4)], 5, 0⟩
def c64_z0 : Pat := ⟨[tt], [.cells (svs 0 4)], 5, 0⟩
def c64_T0 (j : Nat) : Tr Lf := .c 0 ⟨[sv 1, sv 2], [], [], [], true⟩ (.d (.un .neg) [sv 5] (.d (.mm true) [sv 5, sv 7] (.c 0 ⟨[sv 3, sv 4], [], [], [], true⟩ (.d (.un .neg) [sv 9] (.d (.mm true) [sv 9, sv 11] (.c 1 ⟨[nv 0, sv 8, sv 6, sv 12, sv 10], [], [.same 7], [], true⟩ (.t .truth [sv 18] (.x) (.d (.bin .shl) [sv 0, .int .u64 (.ofNat 32)] (.t (.bin .gtr) [sv 17, sv 19] (.x) (rv j 0 ⟨(svs 1 4 ++ [tt]), [], [.same 1], [], true⟩))))))))))
def c64_f (j : Nat) (z : Pat) : CFn := ⟨64, c64_a, z, [⟨none, numA 0 c64_a.vs, c64_a.mem, 5, 0, c64_T0 j⟩], 0⟩
noncomputable def c64_c := mk [c189_c, c204_c] (c64_f 0 c64_z0)

def c272_a : Pat := ⟨[fv 0], [], 0, 1⟩
def c272_z0 : Pat := ⟨[.chan (some 1)], [.lst false 1 0], 0, 1⟩
def c272_T0 (j : Nat) : Tr Lf := .u .nil [fv 0] (.x) (.e (.lit 1) [] (.e (.cat 1) [fv 1, fv 0] (rv j 0 ⟨[], [(fv 2, 1)], [.same 2], [], true⟩)))
def c272_f (j : Nat) (z : Pat) : CFn := ⟨272, c272_a, z, [⟨none, numA 0 c272_a.vs, c272_a.mem, 0, 1, c272_T0 j⟩], 0⟩
noncomputable def c272_c := mkf [] (c272_f 0 c272_z0)

def c163_a : Pat := ⟨[pp 1], [.cells [sv 0, .chan (some 2)], .lst false 1 0], 1, 1⟩
def c163_z0 : Pat := ⟨[pp 3], [.cells [sv 0, .chan (some 2)], .lst false 1 0, .cells [sv 1, .chan (some 4)], .lst false 1 1], 2, 2⟩
def c163_T0 (j : Nat) : Tr Lf := .e .len [fv 0] (.t (.bin .eql) [sv 1, iv 0] (.x) (.c 0 ⟨[], [(fv 0, 1)], [], [], true⟩ (rv j 0 ⟨[sv 0, sv 0], [(fv 0, 1), (fv 1, 1)], [.same 1, .same 2, .same 4, .same 3], [], true⟩)))
def c163_f (j : Nat) (z : Pat) : CFn := ⟨163, c163_a, z, [⟨none, numA 0 c163_a.vs, c163_a.mem, 1, 1, c163_T0 j⟩], 0⟩
noncomputable def c163_c := mkf [c272_c] (c163_f 0 c163_z0)

def c274_a : Pat := ⟨[.map (some 1)], [.mp 4 0], 0, 1⟩
def c274_z0 : Pat := ⟨[.map (some 2)], [.mp 4 0, .mp 4 1], 0, 2⟩
def c274_T0 (j : Nat) : Tr Lf := rv j 0 ⟨[], [(fv 0, 5), (fv 0, 5)], [.same 1, .same 2], [], true⟩
def c274_f (j : Nat) (z : Pat) : CFn := ⟨274, c274_a, z, [⟨none, numA 0 c274_a.vs, c274_a.mem, 0, 1, c274_T0 j⟩], 0⟩
noncomputable def c274_c := mkf [] (c274_f 0 c274_z0)

def c164_a : Pat := ⟨[pp 1], [.cells [.map (some 2)], .mp 4 0], 0, 1⟩
def c164_z0 : Pat := ⟨[pp 3], [.cells [.map (some 2)], .mp 4 0, .cells [.map (some 4)], .mp 4 1], 0, 2⟩
def c164_T0 (j : Nat) : Tr Lf := .c 0 ⟨[], [(fv 0, 5)], [.same 2], [], true⟩ (rv j 0 ⟨[], [(fv 1, 5), (fv 2, 5)], [.same 1, .same 2, .same 4, .same 3], [], true⟩)
def c164_f (j : Nat) (z : Pat) : CFn := ⟨164, c164_a, z, [⟨none, numA 0 c164_a.vs, c164_a.mem, 0, 1, c164_T0 j⟩], 0⟩
noncomputable def c164_c := mkf [c274_c] (c164_f 0 c164_z0)

def c122_a : Pat := ⟨[ag (svs 0 4 ++ [fv 0])], [], 4, 1⟩
def c122_z0 : Pat := ⟨[ag (svs 0 4 ++ [fv 0])], [], 4, 1⟩
def c122_T0 (j : Nat) : Tr Lf := .e (.cat 2) [nlS, fv 0] (rv j 0 ⟨(svs 0 4), [(fv 1, 2)], [], [], true⟩)
def c122_f (j : Nat) (z : Pat) : CFn := ⟨122, c122_a, z, [⟨none, numA 0 c122_a.vs, c122_a.mem, 4, 1, c122_T0 j⟩], 0⟩
noncomputable def c122_c := mkf [] (c122_f 0 c122_z0)

def c63_a : Pat := ⟨[ag (svs 0 4 ++ [fv 0] ++ svs 4 22)], [], 26, 1⟩
def c63_z0 : Pat := ⟨[ag (svs 0 4 ++ [fv 0] ++ svs 4 22)], [], 26, 1⟩
def c63_T0 (j : Nat) : Tr Lf := .c 0 ⟨(svs 0 4), [(fv 0, 2)], [], [], false⟩ (rv j 0 ⟨(svs 26 4 ++ svs 4 22), [(fv 1, 2)], [], [], true⟩)
def c63_f (j : Nat) (z : Pat) : CFn := ⟨63, c63_a, z, [⟨none, numA 0 c63_a.vs, c63_a.mem, 26, 1, c63_T0 j⟩], 0⟩
noncomputable def c63_c := mkf [c122_c] (c63_f 0 c63_z0)

def c165_a : Pat := ⟨[nlS], [], 0, 0⟩
def c165_z0 : Pat := ⟨[.chan (some 1)], [.lst false 16 0], 0, 1⟩
def c165_T0 (j : Nat) : Tr Lf := rv j 0 ⟨[], [(nlS, 16)], [.nil], [], true⟩
def c165_f (j : Nat) (z : Pat) : CFn := ⟨165, c165_a, z, [⟨none, numA 0 c165_a.vs, c165_a.mem, 0, 0, c165_T0 j⟩], 0⟩
noncomputable def c165_c := mkf [] (c165_f 0 c165_z0)

def c97_a : Pat := ⟨[pp 1], [.cells [pp 2], k20, .cells [sv 0, .chan (some 4)], .lst false 1 0, .cells [.map (some 6)], .mp 4 1, .lst false 27 2], 11, 3⟩
def c97_z0 : Pat := ⟨[pp 8], [.cells [pp 2], k20, .cells [sv 0, .chan (some 4)], .lst false 1 0, .cells [.map (some 6)], .mp 4 1, .lst false 27 2, .cells [pp 9], .cells ([pp 10, pp 12] ++ svs 12 8 ++ [.chan (some 14), .chan (some 15), sv 20, sv 21]), .cells [sv 11, .chan (some 11)], .lst false 1 3, .cells [.map (some 13)], .mp 4 4, .lst false 27 5, .lst false 16 6], 22, 7⟩
def c97_T0 (j : Nat) : Tr Lf := .c 0 ⟨[sv 0], [(fv 0, 1)], [.same 3, .same 4], [], true⟩ (.c 1 ⟨[], [(fv 1, 5)], [.same 5, .same 6], [], true⟩ (.e .len [fv 2] (.t (.bin .leq) [sv 13, iv 1048576] (.e .rep ([sv 13] ++ rp 4 (iv 0) ++ [nlS, iv 0, ff, iv 0, ff, iv 0, ff, iv 0, ff, iv 0, ff, iv 0, ff, iv 0, ff, iv 0, ff, iv 0, ff, iv 0, ff, ff, iv 0]) (.lf (.go 1 ⟨([sv 11] ++ svs 1 10 ++ [sv 12] ++ svs 1 10 ++ [sv 13, iv 0]), [(fv 3, 1), (fv 5, 5), (fv 2, 27), (fv 4, 1), (fv 6, 5), (fv 7, 27)], (sm 1 13), [], true⟩))) (.x))))
def c97_T1 (j : Nat) : Tr Lf := .t (.bin .lss) [sv 23, sv 22] (.e (.iad 27) [fv 2, sv 23] (.l 6 [true, true, true, true, false, true, true, true, true, true, true, true, true, true, true, true, true, true, true, true, true, true, true, true, true, true, true] (.c 2 ⟨(svs 24 26), [(fv 7, 2)], [], [], false⟩ (.e (.iad 27) [fv 5, sv 23] (.e (.set 27 0) ([fv 5, sv 23] ++ svs 50 4 ++ [fv 8] ++ svs 54 22) (.d (.bin .add) [sv 23, iv 1] (.lf (.go 1 ⟨(svs 0 23 ++ [sv 76]), [(fv 0, 1), (fv 1, 5), (fv 2, 27), (fv 3, 1), (fv 4, 5), (fv 10, 27)], (sm 1 13), [], true⟩)))))))) (.c 3 ⟨[], [], [], [], true⟩ (rv j 0 ⟨(svs 0 22), [(fv 0, 1), (fv 1, 5), (fv 2, 27), (fv 3, 1), (fv 4, 5), (fv 5, 27), (fv 6, 16)], (sm 1 7 ++ [.same 15] ++ sm 8 7), [], true⟩))
def c97_f (j : Nat) (z : Pat) : CFn := ⟨97, c97_a, z, [⟨none, numA 0 c97_a.vs, c97_a.mem, 11, 3, c97_T0 j⟩, ⟨(some [1, 1, 1, 1, 1, 0, 1, 0]), [(0, pp 1), (3, pp 8), (38, .chan (some 7)), (39, sv 22), (40, sv 23)], [.cells [pp 2], k20, .cells [sv 0, .chan (some 4)], .lst false 1 0, .cells [.map (some 6)], .mp 4 1, .lst false 27 2, .cells ([pp 9, pp 11] ++ svs 12 8 ++ [.chan (some 13), nlS, sv 20, sv 21]), .cells [sv 11, .chan (some 10)], .lst false 1 3, .cells [.map (some 12)], .mp 4 4, .lst false 27 5], 24, 6, c97_T1 j⟩], 0⟩
noncomputable def c97_c := mkf [c163_c, c164_c, c63_c, c165_c] (c97_f 0 c97_z0)

def c98_a : Pat := ⟨[nlS], [], 0, 0⟩
def c98_z0 : Pat := ⟨[.chan (some 1)], [.lst false 4 0], 0, 1⟩
def c98_T0 (j : Nat) : Tr Lf := rv j 0 ⟨[], [(nlS, 4)], [.nil], [], true⟩
def c98_f (j : Nat) (z : Pat) : CFn := ⟨98, c98_a, z, [⟨none, numA 0 c98_a.vs, c98_a.mem, 0, 0, c98_T0 j⟩], 0⟩
noncomputable def c98_c := mkf [] (c98_f 0 c98_z0)

def c368_a : Pat := ⟨[ag (svs 0 4 ++ [fv 0]), ag (svs 4 4 ++ [fv 1])], [], 8, 2⟩
def c368_z0 : Pat := ⟨[tt], [], 1, 0⟩
def c368_T0 (j : Nat) : Tr Lf := .t .eqi [sv 0, sv 4] (.t .eqi [sv 1, sv 5] (.t .eqi [sv 2, sv 6] (.t .eqi [sv 3, sv 7] (.e .len [fv 0] (.e .len [fv 1] (.t (.bin .neq) [sv 8, sv 9] (.x) (.t (.bin .lss) [iv 0, sv 8] (.x) (rv j 0 ⟨[tt], [], [], [], true⟩))))) (.x)) (.x)) (.x)) (.x)
def c368_f (j : Nat) (z : Pat) : CFn := ⟨368, c368_a, z, [⟨none, numA 0 c368_a.vs, c368_a.mem, 8, 2, c368_T0 j⟩], 0⟩
noncomputable def c368_c := mk [] (c368_f 0 c368_z0)

def c166_a : Pat := ⟨[pp 1, .slice (some ⟨3, 0, none⟩) 2 2], [.cells [.slice (some ⟨2, 0, none⟩) 4 4], .ro (svs 0 4), .cells [sv 4, sv 5]], 6, 0⟩
def c166_z0 : Pat := ⟨[], [.cells [.slice (some ⟨4, 0, some 1⟩) 20 20], .ro (svs 20 4), .cells [sv 24, sv 25], .cells (svs 0 20)], 26, 0⟩
def c166_T0 (j : Nat) : Tr Lf := .d (.bin .shr) [sv 4, .int .u64 (.ofNat 56)] (.d (.conv .u8) [sv 6] (.d (.bin .shr) [sv 4, .int .u64 (.ofNat 48)] (.d (.conv .u8) [sv 8] (.d (.bin .shr) [sv 4, .int .u64 (.ofNat 40)] (.d (.conv .u8) [sv 10] (.d (.bin .shr) [sv 4, .int .u64 (.ofNat 32)] (.d (.conv .u8) [sv 12] (.d (.bin .shr) [sv 4, .int .u64 (.ofNat 24)] (.d (.conv .u8) [sv 14] (.d (.bin .shr) [sv 4, .int .u64 (.ofNat 16)] (.d (.conv .u8) [sv 16] (.d (.bin .shr) [sv 4, .int .u64 (.ofNat 8)] (.d (.conv .u8) [sv 18] (.d (.bin .shr) [sv 4, .int .u64 (.ofNat 0)] (.d (.conv .u8) [sv 20] (.d (.bin .shr) [sv 5, .int .u64 (.ofNat 56)] (.d (.conv .u8) [sv 22] (.d (.bin .shr) [sv 5, .int .u64 (.ofNat 48)] (.d (.conv .u8) [sv 24] (.d (.bin .shr) [sv 5, .int .u64 (.ofNat 40)] (.d (.conv .u8) [sv 26] (.d (.bin .shr) [sv 5, .int .u64 (.ofNat 32)] (.d (.conv .u8) [sv 28] (.d (.bin .shr) [sv 5, .int .u64 (.ofNat 24)] (.d (.conv .u8) [sv 30] (.d (.bin .shr) [sv 5, .int .u64 (.ofNat 16)] (.d (.conv .u8) [sv 32] (.d (.bin .shr) [sv 5, .int .u64 (.ofNat 8)] (.d (.conv .u8) [sv 34] (.d (.bin .shr) [sv 5, .int .u64 (.ofNat 0)] (.d (.conv .u8) [sv 36] (rv j 0 ⟨(svs 0 4 ++ [sv 7, sv 9, sv 11, sv 13, sv 15, sv 17, sv 19, sv 21, sv 23, sv 25, sv 27, sv 29, sv 31, sv 33, sv 35, sv 37] ++ svs 0 6), [], (sm 1 3 ++ [.same 35]), [], true⟩))))))))))))))))))))))))))))))))
def c166_f (j : Nat) (z : Pat) : CFn := ⟨166, c166_a, z, [⟨none, numA 0 c166_a.vs, c166_a.mem, 6, 0, c166_T0 j⟩], 0⟩
noncomputable def c166_c := mk [] (c166_f 0 c166_z0)

def c166_1_a : Pat := ⟨[pp 1, .slice (some ⟨3, 0, none⟩) 5 5], [.cells [.slice (some ⟨2, 0, some 1⟩) 20 20], .cells (svs 0 20), .cells (svs 20 5)], 25, 0⟩
def c166_1_z0 : Pat := ⟨[], [.cells [.slice (some ⟨4, 0, some 1⟩) 60 60], .dead, .cells (svs 60 5), .cells (svs 0 60)], 65, 0⟩
def c166_1_T0 (j : Nat) : Tr Lf := .d (.bin .shr) [sv 20, .int .u64 (.ofNat 56)] (.d (.conv .u8) [sv 25] (.d (.bin .shr) [sv 20, .int .u64 (.ofNat 48)] (.d (.conv .u8) [sv 27] (.d (.bin .shr) [sv 20, .int .u64 (.ofNat 40)] (.d (.conv .u8) [sv 29] (.d (.bin .shr) [sv 20, .int .u64 (.ofNat 32)] (.d (.conv .u8) [sv 31] (.d (.bin .shr) [sv 20, .int .u64 (.ofNat 24)] (.d (.conv .u8) [sv 33] (.d (.bin .shr) [sv 20, .int .u64 (.ofNat 16)] (.d (.conv .u8) [sv 35] (.d (.bin .shr) [sv 20, .int .u64 (.ofNat 8)] (.d (.conv .u8) [sv 37] (.d (.bin .shr) [sv 20, .int .u64 (.ofNat 0)] (.d (.conv .u8) [sv 39] (.d (.bin .shr) [sv 21, .int .u64 (.ofNat 56)] (.d (.conv .u8) [sv 41] (.d (.bin .shr) [sv 21, .int .u64 (.ofNat 48)] (.d (.conv .u8) [sv 43] (.d (.bin .shr) [sv 21, .int .u64 (.ofNat 40)] (.d (.conv .u8) [sv 45] (.d (.bin .shr) [sv 21, .int .u64 (.ofNat 32)] (.d (.conv .u8) [sv 47] (.d (.bin .shr) [sv 21, .int .u64 (.ofNat 24)] (.d (.conv .u8) [sv 49] (.d (.bin .shr) [sv 21, .int .u64 (.ofNat 16)] (.d (.conv .u8) [sv 51] (.d (.bin .shr) [sv 21, .int .u64 (.ofNat 8)] (.d (.conv .u8) [sv 53] (.d (.bin .shr) [sv 21, .int .u64 (.ofNat 0)] (.d (.conv .u8) [sv 55] (.d (.bin .shr) [sv 22, .int .u64 (.ofNat 56)] (.d (.conv .u8) [sv 57] (.d (.bin .shr) [sv 22, .int .u64 (.ofNat 48)] (.d (.conv .u8) [sv 59] (.d (.bin .shr) [sv 22, .int .u64 (.ofNat 40)] (.d (.conv .u8) [sv 61] (.d (.bin .shr) [sv 22, .int .u64 (.ofNat 32)] (.d (.conv .u8) [sv 63] (.d (.bin .shr) [sv 22, .int .u64 (.ofNat 24)] (.d (.conv .u8) [sv 65] (.d (.bin .shr) [sv 22, .int .u64 (.ofNat 16)] (.d (.conv .u8) [sv 67] (.d (.bin .shr) [sv 22, .int .u64 (.ofNat 8)] (.d (.conv .u8) [sv 69] (.d (.bin .shr) [sv 22, .int .u64 (.ofNat 0)] (.d (.conv .u8) [sv 71] (.d (.bin .shr) [sv 23, .int .u64 (.ofNat 56)] (.d (.conv .u8) [sv 73] (.d (.bin .shr) [sv 23, .int .u64 (.ofNat 48)] (.d (.conv .u8) [sv 75] (.d (.bin .shr) [sv 23, .int .u64 (.ofNat 40)] (.d (.conv .u8) [sv 77] (.d (.bin .shr) [sv 23, .int .u64 (.ofNat 32)] (.d (.conv .u8) [sv 79] (.d (.bin .shr) [sv 23, .int .u64 (.ofNat 24)] (.d (.conv .u8) [sv 81] (.d (.bin .shr) [sv 23, .int .u64 (.ofNat 16)] (.d (.conv .u8) [sv 83] (.d (.bin .shr) [sv 23, .int .u64 (.ofNat 8)] (.d (.conv .u8) [sv 85] (.d (.bin .shr) [sv 23, .int .u64 (.ofNat 0)] (.d (.conv .u8) [sv 87] (.d (.bin .shr) [sv 24, .int .u64 (.ofNat 56)] (.d (.conv .u8) [sv 89] (.d (.bin .shr) [sv 24, .int .u64 (.ofNat 48)] (.d (.conv .u8) [sv 91] (.d (.bin .shr) [sv 24, .int .u64 (.ofNat 40)] (.d (.conv .u8) [sv 93] (.d (.bin .shr) [sv 24, .int .u64 (.ofNat 32)] (.d (.conv .u8) [sv 95] (.d (.bin .shr) [sv 24, .int .u64 (.ofNat 24)] (.d (.conv .u8) [sv 97] (.d (.bin .shr) [sv 24, .int .u64 (.ofNat 16)] (.d (.conv .u8) [sv 99] (.d (.bin .shr) [sv 24, .int .u64 (.ofNat 8)] (.d (.conv .u8) [sv 101] (.d (.bin .shr) [sv 24, .int .u64 (.ofNat 0)] (.d (.conv .u8) [sv 103] (rv j 0 ⟨(svs 0 20 ++ [sv 26, sv 28, sv 30, sv 32, sv 34, sv 36, sv 38, sv 40, sv 42, sv 44, sv 46, sv 48, sv 50, sv 52, sv 54, sv 56, sv 58, sv 60, sv 62, sv 64, sv 66, sv 68, sv 70, sv 72, sv 74, sv 76, sv 78, sv 80, sv 82, sv 84, sv 86, sv 88, sv 90, sv 92, sv 94, sv 96, sv 98, sv 100, sv 102, sv 104] ++ svs 20 5), [], [.same 1, .dead, .same 3, .same 83], [], true⟩))))))))))))))))))))))))))))))))))))))))))))))))))))))))))))))))))))))))))))))))
def c166_1_f (j : Nat) (z : Pat) : CFn := ⟨166, c166_1_a, z, [⟨none, numA 0 c166_1_a.vs, c166_1_a.mem, 25, 0, c166_1_T0 j⟩], 0⟩
noncomputable def c166_1_c := mk [] (c166_1_f 0 c166_1_z0)

def c134_a : Pat := ⟨[pp 1, sv 1], [.cells [sv 0, .chan (some 2)], .lst false 1 0], 2, 1⟩
def c134_z0 : Pat := ⟨[ag [iv 0, iv 0], ff], [.cells [sv 0, .chan (some 2)], .lst false 1 0], 4, 1⟩
def c134_T0 (j : Nat) : Tr Lf := .e .len [fv 0] (.t (.bin .eql) [sv 2, iv 0] (.x) (.t (.bin .lss) [sv 1, iv 0] (.x) (.t (.bin .geq) [sv 1, sv 2] (.x) (.d (.conv .u64) [sv 1] (.d (.bin .shr) [sv 0, sv 3] (.d (.bin .and) [sv 4, .int .u64 (.ofNat 1)] (.t (.bin .eql) [sv 5, .int .u64 (.ofNat 1)] (.x) (rv j 0 ⟨[sv 0, iv 0, iv 0, ff], [(fv 0, 1)], [.same 1, .same 2], [], true⟩))))))))
def c134_f (j : Nat) (z : Pat) : CFn := ⟨134, c134_a, z, [⟨none, numA 0 c134_a.vs, c134_a.mem, 2, 1, c134_T0 j⟩], 0⟩
noncomputable def c134_c := mkf [] (c134_f 0 c134_z0)

def c168_a : Pat := ⟨[pp 1, sv 1], [.cells [sv 0, .chan (some 2)], .lst false 1 0], 2, 1⟩
def c168_z0 : Pat := ⟨[sv 1], [.cells [sv 0, .chan (some 2)], .lst false 1 0], 2, 1⟩
def c168_T0 (j : Nat) : Tr Lf := .e .len [fv 0] (.t (.bin .eql) [sv 2, iv 0] (.x) (.t (.bin .lss) [sv 1, iv 0] (.x) (.t (.bin .geq) [sv 1, sv 2] (.x) (.e (.iad 1) [fv 0, sv 1] (.l 1 [true] (rv j 0 ⟨[sv 0, sv 3], [(fv 0, 1)], [.same 1, .same 2], [], true⟩))))))
def c168_f (j : Nat) (z : Pat) : CFn := ⟨168, c168_a, z, [⟨none, numA 0 c168_a.vs, c168_a.mem, 2, 1, c168_T0 j⟩], 0⟩
noncomputable def c168_c := mkf [] (c168_f 0 c168_z0)

def c169_a : Pat := ⟨[sv 0], [], 1, 0⟩
def c169_z0 : Pat := ⟨[iv 0], [], 1, 0⟩
def c169_T0 (j : Nat) : Tr Lf := .t .truth [sv 0] (.x) (rv j 0 ⟨[iv 0], [], [], [], true⟩)
def c169_f (j : Nat) (z : Pat) : CFn := ⟨169, c169_a, z, [⟨none, numA 0 c169_a.vs, c169_a.mem, 1, 0, c169_T0 j⟩], 0⟩
noncomputable def c169_c := mk [] (c169_f 0 c169_z0)

def c166_3_a : Pat := ⟨[pp 1, .slice (some ⟨3, 0, none⟩) 2 2], [.cells [.chan (some 2)], .lst false 1 0, .cells [sv 0, sv 1]], 2, 1⟩
def c166_3_z0 : Pat := ⟨[], [.cells [.chan (some 4)], .dead, .cells [sv 0, sv 1], .lst false 1 0], 2, 1⟩
def c166_3_T0 (j : Nat) : Tr Lf := .d (.bin .shr) [sv 0, .int .u64 (.ofNat 56)] (.d (.conv .u8) [sv 2] (.e (.app 1) [fv 0, sv 3] (.d (.bin .shr) [sv 0, .int .u64 (.ofNat 48)] (.d (.conv .u8) [sv 4] (.e (.app 1) [fv 1, sv 5] (.d (.bin .shr) [sv 0, .int .u64 (.ofNat 40)] (.d (.conv .u8) [sv 6] (.e (.app 1) [fv 2, sv 7] (.d (.bin .shr) [sv 0, .int .u64 (.ofNat 32)] (.d (.conv .u8) [sv 8] (.e (.app 1) [fv 3, sv 9] (.d (.bin .shr) [sv 0, .int .u64 (.ofNat 24)] (.d (.conv .u8) [sv 10] (.e (.app 1) [fv 4, sv 11] (.d (.bin .shr) [sv 0, .int .u64 (.ofNat 16)] (.d (.conv .u8) [sv 12] (.e (.app 1) [fv 5, sv 13] (.d (.bin .shr) [sv 0, .int .u64 (.ofNat 8)] (.d (.conv .u8) [sv 14] (.e (.app 1) [fv 6, sv 15] (.d (.bin .shr) [sv 0, .int .u64 (.ofNat 0)] (.d (.conv .u8) [sv 16] (.e (.app 1) [fv 7, sv 17] (.d (.bin .shr) [sv 1, .int .u64 (.ofNat 56)] (.d (.conv .u8) [sv 18] (.e (.app 1) [fv 8, sv 19] (.d (.bin .shr) [sv 1, .int .u64 (.ofNat 48)] (.d (.conv .u8) [sv 20] (.e (.app 1) [fv 9, sv 21] (.d (.bin .shr) [sv 1, .int .u64 (.ofNat 40)] (.d (.conv .u8) [sv 22] (.e (.app 1) [fv 10, sv 23] (.d (.bin .shr) [sv 1, .int .u64 (.ofNat 32)] (.d (.conv .u8) [sv 24] (.e (.app 1) [fv 11, sv 25] (.d (.bin .shr) [sv 1, .int .u64 (.ofNat 24)] (.d (.conv .u8) [sv 26] (.e (.app 1) [fv 12, sv 27] (.d (.bin .shr) [sv 1, .int .u64 (.ofNat 16)] (.d (.conv .u8) [sv 28] (.e (.app 1) [fv 13, sv 29] (.d (.bin .shr) [sv 1, .int .u64 (.ofNat 8)] (.d (.conv .u8) [sv 30] (.e (.app 1) [fv 14, sv 31] (.d (.bin .shr) [sv 1, .int .u64 (.ofNat 0)] (.d (.conv .u8) [sv 32] (.e (.app 1) [fv 15, sv 33] (rv j 0 ⟨[sv 0, sv 1], [(fv 16, 1)], [.same 1, .dead, .same 3, .same 35], [], true⟩))))))))))))))))))))))))))))))))))))))))))))))))
def c166_3_f (j : Nat) (z : Pat) : CFn := ⟨166, c166_3_a, z, [⟨none, numA 0 c166_3_a.vs, c166_3_a.mem, 2, 1, c166_3_T0 j⟩], 0⟩
noncomputable def c166_3_c := mkf [] (c166_3_f 0 c166_3_z0)

def c166_4_a : Pat := ⟨[pp 1, .slice (some ⟨3, 0, none⟩) 1 1], [.cells [.chan (some 2)], .lst false 1 0, .cells [sv 0]], 1, 1⟩
def c166_4_z0 : Pat := ⟨[], [.cells [.chan (some 4)], .dead, .cells [sv 0], .lst false 1 0], 1, 1⟩
def c166_4_T0 (j : Nat) : Tr Lf := .d (.bin .shr) [sv 0, .int .u64 (.ofNat 56)] (.d (.conv .u8) [sv 1] (.e (.app 1) [fv 0, sv 2] (.d (.bin .shr) [sv 0, .int .u64 (.ofNat 48)] (.d (.conv .u8) [sv 3] (.e (.app 1) [fv 1, sv 4] (.d (.bin .shr) [sv 0, .int .u64 (.ofNat 40)] (.d (.conv .u8) [sv 5] (.e (.app 1) [fv 2, sv 6] (.d (.bin .shr) [sv 0, .int .u64 (.ofNat 32)] (.d (.conv .u8) [sv 7] (.e (.app 1) [fv 3, sv 8] (.d (.bin .shr) [sv 0, .int .u64 (.ofNat 24)] (.d (.conv .u8) [sv 9] (.e (.app 1) [fv 4, sv 10] (.d (.bin .shr) [sv 0, .int .u64 (.ofNat 16)] (.d (.conv .u8) [sv 11] (.e (.app 1) [fv 5, sv 12] (.d (.bin .shr) [sv 0, .int .u64 (.ofNat 8)] (.d (.conv .u8) [sv 13] (.e (.app 1) [fv 6, sv 14] (.d (.bin .shr) [sv 0, .int .u64 (.ofNat 0)] (.d (.conv .u8) [sv 15] (.e (.app 1) [fv 7, sv 16] (rv j 0 ⟨[sv 0], [(fv 8, 1)], [.same 1, .dead, .same 3, .same 19], [], true⟩))))))))))))))))))))))))
def c166_4_f (j : Nat) (z : Pat) : CFn := ⟨166, c166_4_a, z, [⟨none, numA 0 c166_4_a.vs, c166_4_a.mem, 1, 1, c166_4_T0 j⟩], 0⟩
noncomputable def c166_4_c := mkf [] (c166_4_f 0 c166_4_z0)

def c100_a : Pat := ⟨[pp 1], [.cells [pp 2], k16, .cells [sv 0, .chan (some 4)], .lst false 1 0, .cells [.map (some 6)], .mp 4 1, .lst false 27 2, .lst false 16 3], 11, 4⟩
def c100_z0 : Pat := ⟨[sv 11], [.cells [pp 2], k16, .cells [sv 0, .chan (some 4)], .lst false 1 0, .cells [.map (some 6)], .mp 4 1, .lst false 27 2, .lst false 16 3], 12, 4⟩
def c100_T0 (j : Nat) : Tr Lf := .c 0 ⟨(ub [98, 103, 108, 49] ++ [sv 1, sv 3]), [], [.same 10, .same 9, .same 12], [], true⟩ (.c 1 ⟨(svs 11 20 ++ [sv 5] ++ svs 7 4), [], [.same 10, .same 13, .same 14], [], true⟩ (.e (.lit 1) (svs 37 60) (.lf (.go 1 ⟨(svs 0 11 ++ [sv 7, iv 0]), [(fv 0, 1), (fv 1, 5), (fv 2, 27), (fv 3, 16), (fv 4, 1)], (sm 1 8 ++ [.same 10, .rows 15 0 60 1]), [], true⟩))))
def c100_T1 (j : Nat) : Tr Lf := .t (.bin .lss) [sv 12, sv 11] (.c 2 ⟨[sv 0, sv 12], [(fv 0, 1)], [.same 3, .same 4], [], true⟩ (.c 3 ⟨[sv 13, sv 12], [(fv 5, 1)], [.same 3, .same 4], [], true⟩ (.c 4 ⟨[ff], [], [], [], true⟩ (.c 5 ⟨[sv 18, iv 0], [(fv 4, 1)], [.same 9, .same 10, .same 12], [], true⟩ (.d (.bin .add) [sv 12, iv 1] (.lf (.go 1 ⟨([sv 17] ++ svs 1 11 ++ [sv 22]), [(fv 6, 1), (fv 1, 5), (fv 2, 27), (fv 3, 16), (fv 7, 1)], (sm 1 9 ++ [.same 13]), [], true⟩))))))) (.e .len [fv 3] (.c 6 ⟨[sv 13], [(fv 4, 1)], (sm 9 3), [], true⟩ (.lf (.go 2 ⟨(svs 0 11 ++ [sv 13, iv 0]), [(fv 0, 1), (fv 1, 5), (fv 2, 27), (fv 3, 16), (fv 5, 1)], (sm 1 9 ++ [.same 12]), [], true⟩))))
def c100_T2 (j : Nat) : Tr Lf := .t (.bin .lss) [sv 12, sv 11] (.x) (.e .tos [fv 4] (rv j 0 ⟨(svs 0 11 ++ [sv 13]), [(fv 0, 1), (fv 1, 5), (fv 2, 27), (fv 3, 16)], (sm 1 8), [], true⟩))
def c100_f (j : Nat) (z : Pat) : CFn := ⟨100, c100_a, z, [⟨none, numA 0 c100_a.vs, c100_a.mem, 11, 4, c100_T0 j⟩, ⟨(some [1, 1, 1, 1, 1, 1, 0, 1, 0]), [(3, pp 2), (4, pp 9), (59, sv 11), (60, sv 12)], [.cells [pp 2], k16, .cells [sv 0, .chan (some 4)], .lst false 1 0, .cells [.map (some 6)], .mp 4 1, .lst false 27 2, .lst false 16 3, .cells [.chan (some 10)], .lst false 1 4], 13, 5, c100_T1 j⟩, ⟨(some [1, 1, 1, 1, 1, 1, 1, 1, 0, 1, 0]), [(4, pp 9), (105, .chan (some 8)), (106, sv 11), (107, sv 12)], [.cells [pp 2], k16, .cells [sv 0, .chan (some 4)], .lst false 1 0, .cells [.map (some 6)], .mp 4 1, .lst false 27 2, .lst false 16 3, .cells [.chan (some 10)], .lst false 1 4], 13, 5, c100_T2 j⟩], 0⟩
noncomputable def c100_c := mkf [c166_c, c166_1_c, c134_c, c168_c, c169_c, c166_3_c, c166_4_c] (c100_f 0 c100_z0)

def c47_a : Pat := ⟨[pp 1, pp 9], [.cells [pp 2], k16, .cells [sv 0, .chan (some 4)], .lst false 1 0, .cells [.map (some 6)], .mp 4 1, .lst false 27 2, .lst false 16 3, .cells [pp 10], .cells ([pp 11, pp 13] ++ svs 12 8 ++ [.chan (some 15), .chan (some 16), sv 20, sv 21]), .cells [sv 11, .chan (some 12)], .lst false 1 4, .cells [.map (some 14)], .mp 4 5, .lst false 27 6, .lst false 16 7], 22, 8⟩
def c47_z0 : Pat := ⟨[tt], [.cells [pp 2], k16, .cells [sv 0, .chan (some 4)], .lst false 1 0, .cells [.map (some 6)], .mp 4 1, .lst false 27 2, .lst false 16 3, .cells [pp 10], .cells ([pp 11, pp 13] ++ svs 12 8 ++ [.chan (some 15), .chan (some 16), sv 20, sv 21]), .cells [sv 11, .chan (some 12)], .lst false 1 4, .cells [.map (some 14)], .mp 4 5, .lst false 27 6, .lst false 16 7], 23, 8⟩
def c47_T0 (j : Nat) : Tr Lf := .c 0 ⟨(svs 0 11), [(fv 0, 1), (fv 1, 5), (fv 2, 27), (fv 3, 16)], (sm 1 8), [], true⟩ (.c 0 ⟨(svs 11 11), [(fv 4, 1), (fv 5, 5), (fv 6, 27), (fv 7, 16)], (sm 9 8), [], true⟩ (.t (.bin .eql) [sv 33, sv 45] (rv j 0 ⟨(svs 22 11 ++ svs 34 11 ++ [tt]), [(fv 8, 1), (fv 9, 5), (fv 10, 27), (fv 11, 16), (fv 12, 1), (fv 13, 5), (fv 14, 27), (fv 15, 16)], (sm 1 16), [], true⟩) (.x)))
def c47_f (j : Nat) (z : Pat) : CFn := ⟨47, c47_a, z, [⟨none, numA 0 c47_a.vs, c47_a.mem, 22, 8, c47_T0 j⟩], 0⟩
noncomputable def c47_c := mkf [c100_c] (c47_f 0 c47_z0)

def c133_a : Pat := ⟨[pp 1], [.cells [sv 0, .chan (some 2)], .lst false 1 0], 1, 1⟩
def c133_z0 : Pat := ⟨[sv 1], [.cells [sv 0, .chan (some 2)], .lst false 1 0], 2, 1⟩
def c133_T0 (j : Nat) : Tr Lf := .e .len [fv 0] (.t (.bin .eql) [sv 1, iv 0] (.x) (rv j 0 ⟨[sv 0, sv 1], [(fv 0, 1)], [.same 1, .same 2], [], true⟩))
def c133_f (j : Nat) (z : Pat) : CFn := ⟨133, c133_a, z, [⟨none, numA 0 c133_a.vs, c133_a.mem, 1, 1, c133_T0 j⟩], 0⟩
noncomputable def c133_c := mkf [] (c133_f 0 c133_z0)

def c72_a : Pat := ⟨[pp 1], [.cells [sv 0, .chan (some 2)], .lst false 1 0], 1, 1⟩
def c72_z0 : Pat := ⟨[.chan (some 3)], [.cells [sv 0, .chan (some 2)], .lst false 1 0, .lst false 2 1], 1, 2⟩
def c72_T0 (j : Nat) : Tr Lf := .c 0 ⟨[sv 0], [(fv 0, 1)], [.same 1, .same 2], [], true⟩ (.lf (.go 1 ⟨[sv 1, sv 2, iv 0], [(fv 1, 1)], [.same 1, .same 2], [], true⟩))
def c72_T1 (j : Nat) : Tr Lf := .t (.bin .lss) [sv 2, sv 1] (.c 1 ⟨[sv 0, sv 2], [(fv 0, 1)], [.same 1, .same 2], [], true⟩ (.d (.bin .add) [sv 2, iv 1] (.lf (.go 1 ⟨[sv 3, sv 1, sv 7], [(fv 1, 1)], [.same 1, .same 2], [], true⟩)))) (rv j 0 ⟨[sv 0], [(fv 0, 1), (nlS, 2)], [.same 1, .same 2, .nil], [], true⟩)
def c72_f (j : Nat) (z : Pat) : CFn := ⟨72, c72_a, z, [⟨none, numA 0 c72_a.vs, c72_a.mem, 1, 1, c72_T0 j⟩, ⟨(some [1, 1, 0, 1, 0]), [(0, pp 1), (3, nlS), (8, sv 1), (9, sv 2)], [.cells [sv 0, .chan (some 2)], .lst false 1 0], 3, 1, c72_T1 j⟩], 0⟩
noncomputable def c72_c := mkf [c133_c, c134_c] (c72_f 0 c72_z0)

def c73_a : Pat := ⟨[pp 1], [.cells [pp 2, nlS, nlS], k20, .cells [sv 0, .chan (some 4)], .lst false 1 0, .cells [.map (some 6)], .mp 4 1, .lst false 27 2], 11, 3⟩
def c73_z0 : Pat := ⟨[], [.cells [pp 2, nlS, nlS], k20, .cells [sv 0, .chan (some 4)], .lst false 1 0, .cells [.map (some 6)], .mp 4 1, .lst false 27 2], 11, 3⟩
def c73_T0 (j : Nat) : Tr Lf := .lf (.go 1 ⟨(svs 0 11 ++ [iv 0, iv 0]), [(fv 0, 1), (fv 1, 5), (fv 2, 27)], (sm 1 7), [], true⟩)
def c73_T1 (j : Nat) : Tr Lf := .t (.bin .lss) [sv 12, sv 11] (.x) (rv j 0 ⟨(svs 0 11), [(fv 0, 1), (fv 1, 5), (fv 2, 27)], (sm 1 7), [], true⟩)
def c73_f (j : Nat) (z : Pat) : CFn := ⟨73, c73_a, z, [⟨none, numA 0 c73_a.vs, c73_a.mem, 11, 3, c73_T0 j⟩, ⟨(some [1, 0]), [(0, pp 1), (14, nlS), (15, sv 11), (16, sv 12)], [.cells [pp 2, nlS, nlS], k20, .cells [sv 0, .chan (some 4)], .lst false 1 0, .cells [.map (some 6)], .mp 4 1, .lst false 27 2], 13, 3, c73_T1 j⟩], 0⟩
noncomputable def c73_c := mkf [] (c73_f 0 c73_z0)

def c74_a : Pat := ⟨[pp 1], [.cells [pp 2, nlS, nlS], k20, .cells [sv 0, .chan (some 4)], .lst false 1 0, .cells [.map (some 6)], .mp 4 1, .lst false 27 2], 11, 3⟩
def c74_z0 : Pat := ⟨[], [.cells [pp 2, nlS, nlS], k20, .cells [sv 0, .chan (some 4)], .lst false 1 0, .cells [.map (some 6)], .mp 4 1, .lst false 27 2], 11, 3⟩
def c74_T0 (j : Nat) : Tr Lf := .lf (.go 1 ⟨(svs 0 11 ++ [iv 0, iv 0]), [(fv 0, 1), (fv 1, 5), (fv 2, 27)], (sm 1 7), [], true⟩)
def c74_T1 (j : Nat) : Tr Lf := .t (.bin .lss) [sv 12, sv 11] (.x) (rv j 0 ⟨(svs 0 11), [(fv 0, 1), (fv 1, 5), (fv 2, 27)], (sm 1 7), [], true⟩)
def c74_f (j : Nat) (z : Pat) : CFn := ⟨74, c74_a, z, [⟨none, numA 0 c74_a.vs, c74_a.mem, 11, 3, c74_T0 j⟩, ⟨(some [1, 0]), [(0, pp 1), (7, nlS), (8, sv 11), (9, sv 12)], [.cells [pp 2, nlS, nlS], k20, .cells [sv 0, .chan (some 4)], .lst false 1 0, .cells [.map (some 6)], .mp 4 1, .lst false 27 2], 13, 3, c74_T1 j⟩], 0⟩
noncomputable def c74_c := mkf [] (c74_f 0 c74_z0)

def c390_a : Pat := ⟨[sv 0], [], 1, 0⟩
def c390_z0 : Pat := ⟨[sv 0], [], 1, 0⟩
def c390_T0 (j : Nat) : Tr Lf := .t (.bin .geq) [sv 0, .int .u64 (.ofNat 4294967296)] (.x) (.t (.bin .geq) [sv 0, .int .u64 (.ofNat 65536)] (.x) (.t (.bin .geq) [sv 0, .int .u64 (.ofNat 256)] (.x) (.d (.conv .u8) [sv 0] (.d .sidx [.string ⟨⟨[0, 1, 2, 2, 3, 3, 3, 3, 4, 4, 4, 4, 4, 4, 4, 4, 5, 5, 5, 5, 5, 5, 5, 5, 5, 5, 5, 5, 5, 5, 5, 5, 6, 6, 6, 6, 6, 6, 6, 6, 6, 6, 6, 6, 6, 6, 6, 6, 6, 6, 6, 6, 6, 6, 6, 6, 6, 6, 6, 6, 6, 6, 6, 6, 7, 7, 7, 7, 7, 7, 7, 7, 7, 7, 7, 7, 7, 7, 7, 7, 7, 7, 7, 7, 7, 7, 7, 7, 7, 7, 7, 7, 7, 7, 7, 7, 7, 7, 7, 7, 7, 7, 7, 7, 7, 7, 7, 7, 7, 7, 7, 7, 7, 7, 7, 7, 7, 7, 7, 7, 7, 7, 7, 7, 7, 7, 7, 7, 8, 8, 8, 8, 8, 8, 8, 8, 8, 8, 8, 8, 8, 8, 8, 8, 8, 8, 8, 8, 8, 8, 8, 8, 8, 8, 8, 8, 8, 8, 8, 8, 8, 8, 8, 8, 8, 8, 8, 8, 8, 8, 8, 8, 8, 8, 8, 8, 8, 8, 8, 8, 8, 8, 8, 8, 8, 8, 8, 8, 8, 8, 8, 8, 8, 8, 8, 8, 8, 8, 8, 8, 8, 8, 8, 8, 8, 8, 8, 8, 8, 8, 8, 8, 8, 8, 8, 8, 8, 8, 8, 8, 8, 8, 8, 8, 8, 8, 8, 8, 8, 8, 8, 8, 8, 8, 8, 8, 8, 8, 8, 8, 8, 8, 8, 8, 8, 8, 8, 8, 8, 8, 8, 8, 8, 8, 8, 8]⟩⟩, sv 1] (.d (.conv .i64) [sv 2] (.d (.bin .add) [iv 0, sv 3] (rv j 0 ⟨[sv 4], [], [], [], true⟩)))))))
def c390_f (j : Nat) (z : Pat) : CFn := ⟨390, c390_a, z, [⟨none, numA 0 c390_a.vs, c390_a.mem, 1, 0, c390_T0 j⟩], 0⟩
noncomputable def c390_c := mk [] (c390_f 0 c390_z0)

def c328_a : Pat := ⟨[sv 0], [], 1, 0⟩
def c328_z0 : Pat := ⟨[sv 0], [], 1, 0⟩
def c328_T0 (j : Nat) : Tr Lf := .c 0 ⟨[sv 0], [], [], [], true⟩ (rv j 0 ⟨[sv 1], [], [], [], true⟩)
def c328_f (j : Nat) (z : Pat) : CFn := ⟨328, c328_a, z, [⟨none, numA 0 c328_a.vs, c328_a.mem, 1, 0, c328_T0 j⟩], 0⟩
noncomputable def c328_c := mk [c390_c] (c328_f 0 c328_z0)

def c403_a : Pat := ⟨[.chan (some 1), sv 0, sv 1, .func (.func 217) ⟨[]⟩ ⟨[pp 2]⟩], [.lst false 1 0, .cells [pp 3], .cells [.map (some 4)], .mp 4 1], 2, 2⟩
def c403_z0 : Pat := ⟨[], [.lst false 1 0, .cells [pp 3], .cells [.map (some 4)], .mp 4 1], 0, 2⟩
def c403_T0 (j : Nat) : Tr Lf := .d (.bin .add) [sv 0, iv 1] (.lf (.go 1 ⟨(svs 0 3), [(fv 0, 1), (fv 1, 5)], (sm 1 4), [], true⟩))
def c403_T1 (j : Nat) : Tr Lf := .t (.bin .lss) [sv 2, sv 1] (.x) (rv j 0 ⟨[], [(fv 0, 1), (fv 1, 5)], (sm 1 4), [], true⟩)
def c403_f (j : Nat) (z : Pat) : CFn := ⟨403, c403_a, z, [⟨none, numA 0 c403_a.vs, c403_a.mem, 2, 2, c403_T0 j⟩, ⟨(some [1, 0]), [(0, .chan (some 1)), (1, sv 0), (2, sv 1), (3, .func (.func 217) ⟨[]⟩ ⟨[pp 2]⟩), (8, sv 2)], [.lst false 1 0, .cells [pp 3], .cells [.map (some 4)], .mp 4 1], 3, 2, c403_T1 j⟩], 0⟩
noncomputable def c403_c := mkf [] (c403_f 0 c403_z0)

def c327_a : Pat := ⟨([.chan (some 1)] ++ svs 0 3 ++ [.func (.func 217) ⟨[]⟩ ⟨[pp 2]⟩]), [.lst false 1 0, .cells [pp 3], .cells [.map (some 4)], .mp 4 1], 3, 2⟩
def c327_z0 : Pat := ⟨[], [.lst false 1 0, .cells [pp 3], .cells [.map (some 4)], .mp 4 1], 0, 2⟩
def c327_T0 (j : Nat) : Tr Lf := .lf (.go 1 ⟨(svs 0 3 ++ [tt, tt]), [(fv 0, 1), (fv 1, 5)], (sm 1 4), [], true⟩)
def c327_T1 (j : Nat) : Tr Lf := .d (.bin .sub) [sv 1, sv 0] (.t (.bin .leq) [sv 5, iv 12] (.c 0 ⟨[sv 0, sv 1], [(fv 0, 1), (fv 1, 5)], (sm 1 4), [], true⟩ (rv j 0 ⟨[], [(fv 2, 1), (fv 3, 5)], (sm 1 4), [], true⟩)) (.x))
def c327_f (j : Nat) (z : Pat) : CFn := ⟨327, c327_a, z, [⟨none, numA 0 c327_a.vs, c327_a.mem, 3, 2, c327_T0 j⟩, ⟨(some [1, 1, 0]), [(0, .chan (some 1)), (1, sv 0), (2, sv 1), (3, sv 2), (4, .func (.func 217) ⟨[]⟩ ⟨[pp 2]⟩), (10, sv 3), (11, sv 4)], [.lst false 1 0, .cells [pp 3], .cells [.map (some 4)], .mp 4 1], 5, 2, c327_T1 j⟩], 0⟩
noncomputable def c327_c := mkf [c403_c] (c327_f 0 c327_z0)

def c412_a : Pat := ⟨[.chan (some 1), sv 0, sv 1, .func (.func 224) ⟨[]⟩ ⟨[]⟩], [.lst false 2 0], 2, 1⟩
def c412_z0 : Pat := ⟨[], [.lst false 2 0], 0, 1⟩
def c412_T0 (j : Nat) : Tr Lf := .d (.bin .add) [sv 0, iv 1] (.lf (.go 1 ⟨(svs 0 3), [(fv 0, 2)], [.same 1], [], true⟩))
def c412_T1 (j : Nat) : Tr Lf := .t (.bin .lss) [sv 2, sv 1] (.x) (rv j 0 ⟨[], [(fv 0, 2)], [.same 1], [], true⟩)
def c412_f (j : Nat) (z : Pat) : CFn := ⟨412, c412_a, z, [⟨none, numA 0 c412_a.vs, c412_a.mem, 2, 1, c412_T0 j⟩, ⟨(some [1, 0]), [(0, .chan (some 1)), (1, sv 0), (2, sv 1), (3, .func (.func 224) ⟨[]⟩ ⟨[]⟩), (8, sv 2)], [.lst false 2 0], 3, 1, c412_T1 j⟩], 0⟩
noncomputable def c412_c := mkf [] (c412_f 0 c412_z0)

def c330_a : Pat := ⟨([.chan (some 1)] ++ svs 0 3 ++ [.func (.func 224) ⟨[]⟩ ⟨[]⟩]), [.lst false 2 0], 3, 1⟩
def c330_z0 : Pat := ⟨[], [.lst false 2 0], 0, 1⟩
def c330_T0 (j : Nat) : Tr Lf := .lf (.go 1 ⟨(svs 0 3 ++ [tt, tt]), [(fv 0, 2)], [.same 1], [], true⟩)
def c330_T1 (j : Nat) : Tr Lf := .d (.bin .sub) [sv 1, sv 0] (.t (.bin .leq) [sv 5, iv 12] (.c 0 ⟨[sv 0, sv 1], [(fv 0, 2)], [.same 1], [], true⟩ (rv j 0 ⟨[], [(fv 1, 2)], [.same 1], [], true⟩)) (.x))
def c330_f (j : Nat) (z : Pat) : CFn := ⟨330, c330_a, z, [⟨none, numA 0 c330_a.vs, c330_a.mem, 3, 1, c330_T0 j⟩, ⟨(some [1, 1, 0]), [(0, .chan (some 1)), (1, sv 0), (2, sv 1), (3, sv 2), (4, .func (.func 224) ⟨[]⟩ ⟨[]⟩), (10, sv 3), (11, sv 4)], [.lst false 2 0], 5, 1, c330_T1 j⟩], 0⟩
noncomputable def c330_c := mkf [c412_c] (c330_f 0 c330_z0)

def c138_a : Pat := ⟨[pp 1], [.cells [.map (some 2)], .mp 4 0], 0, 1⟩
def c138_z0 : Pat := ⟨[.chan (some 3)], [.cells [.map (some 2)], .mp 4 0, .lst false 2 1], 0, 2⟩
def c138_T0 (j : Nat) : Tr Lf := .e .mkeys [fv 0] (.e .len [fv 1] (.d (.conv .u64) [sv 0] (.c 0 ⟨[sv 1], [], [], [], true⟩ (.c 1 ⟨[iv 0, sv 0, sv 2], [(fv 1, 1), (fv 0, 5)], [.same 4, .same 3, .same 1, .same 2], [], true⟩ (.e .len [fv 2] (.lf (.go 1 ⟨[sv 3, iv 0], [(fv 3, 5), (fv 2, 1)], (sm 1 4), [], true⟩)))))))
def c138_T1 (j : Nat) : Tr Lf := .t (.bin .lss) [sv 1, sv 0] (.x) (.c 0 ⟨[.int .u64 (.ofNat 0)], [], [], [], true⟩ (.c 2 ⟨[iv 0, iv 0, sv 2], [(nlS, 2)], [.nil], [], true⟩ (rv j 0 ⟨[], [(fv 0, 5), (nlS, 2)], [.same 1, .same 2, .nil], [], true⟩)))
def c138_f (j : Nat) (z : Pat) : CFn := ⟨138, c138_a, z, [⟨none, numA 0 c138_a.vs, c138_a.mem, 0, 1, c138_T0 j⟩, ⟨(some [1, 1, 1, 1, 1, 0, 1, 0]), [(1, pp 3), (4, nlS), (5, nlS), (16, .chan (some 4)), (17, sv 0), (18, sv 1)], [.cells [.map (some 2)], .mp 4 0, .cells [pp 1], .lst false 1 1], 2, 2, c138_T1 j⟩], 0⟩
noncomputable def c138_c := mkf [c328_c, c327_c, c330_c] (c138_f 0 c138_z0)

def c75_a : Pat := ⟨[pp 1], [.cells [pp 2, nlS, nlS], k20, .cells [sv 0, .chan (some 4)], .lst false 1 0, .cells [.map (some 6)], .mp 4 1, .lst false 27 2], 11, 3⟩
def c75_z0 : Pat := ⟨[], [.cells [pp 2, nlS, nlS], k20, .cells [sv 0, .chan (some 4)], .lst false 1 0, .cells [.map (some 6)], .mp 4 1, .lst false 27 2], 11, 3⟩
def c75_T0 (j : Nat) : Tr Lf := .c 0 ⟨[], [(fv 1, 5)], [.same 5, .same 6], [], true⟩ (.e .len [fv 4] (.lf (.go 1 ⟨(svs 0 12 ++ [iv 0]), [(fv 0, 1), (fv 3, 5), (fv 2, 27), (fv 4, 2)], (sm 1 8), [], true⟩)))
def c75_T1 (j : Nat) : Tr Lf := .t (.bin .lss) [sv 12, sv 11] (.x) (rv j 0 ⟨(svs 0 11), [(fv 0, 1), (fv 1, 5), (fv 2, 27)], (sm 1 7), [], true⟩)
def c75_f (j : Nat) (z : Pat) : CFn := ⟨75, c75_a, z, [⟨none, numA 0 c75_a.vs, c75_a.mem, 11, 3, c75_T0 j⟩, ⟨(some [1, 0]), [(0, pp 1), (15, .chan (some 8)), (16, sv 11), (17, sv 12)], [.cells [pp 2, nlS, nlS], k20, .cells [sv 0, .chan (some 4)], .lst false 1 0, .cells [.map (some 6)], .mp 4 1, .lst false 27 2, .lst false 2 3], 13, 4, c75_T1 j⟩], 0⟩
noncomputable def c75_c := mkf [c138_c] (c75_f 0 c75_z0)

def c228_a : Pat := ⟨[.slice (some ⟨1, 0, none⟩) 0 0], [.cells []], 0, 0⟩
def c228_z0 : Pat := ⟨[.slice (some ⟨2, 0, none⟩) 0 0], [.cells [], .cells []], 0, 0⟩
def c228_T0 (j : Nat) : Tr Lf := rv j 0 ⟨[], [], [.same 1, .same 2], [], true⟩
def c228_f (j : Nat) (z : Pat) : CFn := ⟨228, c228_a, z, [⟨none, numA 0 c228_a.vs, c228_a.mem, 0, 0, c228_T0 j⟩], 0⟩
noncomputable def c228_c := mk [] (c228_f 0 c228_z0)

def c233_a : Pat := ⟨[.slice (some ⟨1, 0, none⟩) 0 0], [.cells []], 0, 0⟩
def c233_z0 : Pat := ⟨[.slice (some ⟨2, 0, none⟩) 0 0], [.cells [], .cells []], 0, 0⟩
def c233_T0 (j : Nat) : Tr Lf := rv j 0 ⟨[], [], [.same 1, .same 2], [], true⟩
def c233_f (j : Nat) (z : Pat) : CFn := ⟨233, c233_a, z, [⟨none, numA 0 c233_a.vs, c233_a.mem, 0, 0, c233_T0 j⟩], 0⟩
noncomputable def c233_c := mk [] (c233_f 0 c233_z0)

def c141_a : Pat := ⟨[.slice (some ⟨1, 0, none⟩) 0 0, nlS, .slice (some ⟨2, 0, none⟩) 0 0, sv 0, ag [sv 1, sv 2]], [.cells [], .cells []], 3, 0⟩
def c141_z0 : Pat := ⟨[.slice (some ⟨3, 0, none⟩) 0 0, .slice (some ⟨4, 0, none⟩) 0 0], [.cells [], .cells [], .cells [], .cells []], 0, 0⟩
def c141_T0 (j : Nat) : Tr Lf := .c 0 ⟨[], [], [.same 1], [], true⟩ (.d (.mm false) [sv 0, iv 16] (.d (.mm true) [iv 0, sv 3] (.t (.bin .lss) [iv 0, sv 4] (.t .eqi [sv 4, iv 1] (.t (.bin .lss) [iv 1, sv 4] (.x) (.c 1 ⟨[], [], [.same 4], [], true⟩ (rv j 0 ⟨[], [], [.same 1, .same 2, .same 6, .same 5], [], true⟩))) (.t .eqi [sv 4, iv 2] (.t (.bin .lss) [iv 1, sv 4] (.t (.bin .lss) [iv 2, sv 4] (.x) (.c 1 ⟨[], [], [.same 4], [], true⟩ (rv j 0 ⟨[], [], [.same 1, .same 2, .same 6, .same 5], [], true⟩))) (.x)) (.t .eqi [sv 4, iv 3] (.t (.bin .lss) [iv 1, sv 4] (.t (.bin .lss) [iv 2, sv 4] (.t (.bin .lss) [iv 3, sv 4] (.x) (.c 1 ⟨[], [], [.same 4], [], true⟩ (rv j 0 ⟨[], [], [.same 1, .same 2, .same 6, .same 5], [], true⟩))) (.x)) (.x)) (.t .eqi [sv 4, iv 4] (.t (.bin .lss) [iv 1, sv 4] (.t (.bin .lss) [iv 2, sv 4] (.t (.bin .lss) [iv 3, sv 4] (.t (.bin .lss) [iv 4, sv 4] (.x) (.c 1 ⟨[], [], [.same 4], [], true⟩ (rv j 0 ⟨[], [], [.same 1, .same 2, .same 6, .same 5], [], true⟩))) (.x)) (.x)) (.x)) (.x))))) (.x))))
def c141_f (j : Nat) (z : Pat) : CFn := ⟨141, c141_a, z, [⟨none, numA 0 c141_a.vs, c141_a.mem, 3, 0, c141_T0 j⟩], 0⟩
noncomputable def c141_c := mk [c228_c, c233_c] (c141_f 0 c141_z0)

def c76_a : Pat := ⟨[pp 1], [.cells [pp 2, nlS, nlS], k20, .cells [sv 0, .chan (some 4)], .lst false 1 0, .cells [.map (some 6)], .mp 4 1, .lst false 27 2], 11, 3⟩
def c76_z0 : Pat := ⟨[], [.cells [pp 2, nlS, nlS], k20, .cells [sv 0, .chan (some 4)], .lst false 1 0, .cells [.map (some 6)], .mp 4 1, .lst false 27 2], 11, 3⟩
def c76_T0 (j : Nat) : Tr Lf := .lf (.go 1 ⟨(svs 0 11 ++ [iv 0, iv 0]), [(fv 0, 1), (fv 1, 5), (fv 2, 27)], (sm 1 8), [], true⟩)
def c76_T1 (j : Nat) : Tr Lf := .t (.bin .lss) [sv 12, sv 11] (.x) (.lf (.go 2 ⟨(svs 0 11 ++ [iv 0, iv 0]), [(fv 0, 1), (fv 1, 5), (fv 2, 27)], (sm 1 9), [], true⟩))
def c76_T2 (j : Nat) : Tr Lf := .t (.bin .lss) [sv 12, sv 11] (.x) (.c 0 ⟨[sv 8, sv 5, sv 6], [], [.same 8, .same 9], [], true⟩ (.lf (.go 3 ⟨(svs 0 11 ++ [iv 0, iv 0]), [(fv 0, 1), (fv 1, 5), (fv 2, 27)], (sm 1 7 ++ [.same 10]), [], true⟩)))
def c76_T3 (j : Nat) : Tr Lf := .t (.bin .lss) [sv 12, sv 11] (.x) (rv j 0 ⟨(svs 0 11), [(fv 0, 1), (fv 1, 5), (fv 2, 27)], (sm 1 7), [], true⟩)
def c76_f (j : Nat) (z : Pat) : CFn := ⟨76, c76_a, z, [⟨none, numA 0 c76_a.vs, c76_a.mem, 11, 3, c76_T0 j⟩, ⟨(some [1, 0, 1, 0]), [(0, pp 1), (2, .slice (some ⟨8, 0, none⟩) 0 0), (19, nlS), (20, sv 11), (21, sv 12)], [.cells [pp 2, nlS, nlS], k20, .cells [sv 0, .chan (some 4)], .lst false 1 0, .cells [.map (some 6)], .mp 4 1, .lst false 27 2, .cells []], 13, 3, c76_T1 j⟩, ⟨(some [1, 1, 1, 0, 1, 0]), [(0, pp 1), (2, .slice (some ⟨8, 0, none⟩) 0 0), (5, .slice (some ⟨9, 0, none⟩) 0 0), (55, nlS), (56, sv 11), (57, sv 12)], [.cells [pp 2, nlS, nlS], k20, .cells [sv 0, .chan (some 4)], .lst false 1 0, .cells [.map (some 6)], .mp 4 1, .lst false 27 2, .cells [], .cells []], 13, 3, c76_T2 j⟩, ⟨(some [1, 1, 1, 1, 1, 1, 0]), [(0, pp 1), (2, .slice (some ⟨8, 0, none⟩) 0 0), (101, nlS), (102, sv 11), (103, sv 12)], [.cells [pp 2, nlS, nlS], k20, .cells [sv 0, .chan (some 4)], .lst false 1 0, .cells [.map (some 6)], .mp 4 1, .lst false 27 2, .cells []], 13, 3, c76_T3 j⟩], 0⟩
noncomputable def c76_c := mkf [c141_c] (c76_f 0 c76_z0)

def c77_a : Pat := ⟨[pp 1], [.cells [pp 2, nlS, nlS], k20, .cells [sv 0, .chan (some 4)], .lst false 1 0, .cells [.map (some 6)], .mp 4 1, .lst false 27 2], 11, 3⟩
def c77_z0 : Pat := ⟨[], [.cells [pp 2, nlS, nlS], k20, .cells [sv 0, .chan (some 4)], .lst false 1 0, .cells [.map (some 6)], .mp 4 1, .lst false 27 2], 11, 3⟩
def c77_T0 (j : Nat) : Tr Lf := .lf (.go 1 ⟨(svs 0 11 ++ [iv 0, iv 0]), [(fv 0, 1), (fv 1, 5), (fv 2, 27)], (sm 1 7), [], true⟩)
def c77_T1 (j : Nat) : Tr Lf := .t (.bin .lss) [sv 12, sv 11] (.x) (rv j 0 ⟨(svs 0 11), [(fv 0, 1), (fv 1, 5), (fv 2, 27)], (sm 1 7), [], true⟩)
def c77_f (j : Nat) (z : Pat) : CFn := ⟨77, c77_a, z, [⟨none, numA 0 c77_a.vs, c77_a.mem, 11, 3, c77_T0 j⟩, ⟨(some [1, 0]), [(0, pp 1), (7, nlS), (8, sv 11), (9, sv 12)], [.cells [pp 2, nlS, nlS], k20, .cells [sv 0, .chan (some 4)], .lst false 1 0, .cells [.map (some 6)], .mp 4 1, .lst false 27 2], 13, 3, c77_T1 j⟩], 0⟩
noncomputable def c77_c := mkf [] (c77_f 0 c77_z0)

def c26_a : Pat := ⟨[pp 1], [.cells [pp 2], k20, .cells [sv 0, .chan (some 4)], .lst false 1 0, .cells [.map (some 6)], .mp 4 1, .lst false 27 2], 11, 3⟩
def c26_z0 : Pat := ⟨[iv 0], [.cells [pp 2], k20, .cells [sv 0, .chan (some 4)], .lst false 1 0, .cells [.map (some 6)], .mp 4 1, .lst false 27 2], 12, 3⟩
def c26_T0 (j : Nat) : Tr Lf := .t (.bin .geq) [sv 9, iv 1099511627776] (.x) (.c 0 ⟨[sv 0], [(fv 0, 1)], [.same 3, .same 4], [], true⟩ (.e .len [fv 4] (.lf (.go 1 ⟨([sv 11] ++ svs 1 10 ++ [sv 12, iv 0]), [(fv 3, 1), (fv 1, 5), (fv 2, 27), (fv 4, 2)], (sm 1 9), [], true⟩))))
def c26_T1 (j : Nat) : Tr Lf := .t (.bin .lss) [sv 12, sv 11] (.x) (.c 1 ⟨(svs 0 11), [(fv 0, 1), (fv 1, 5), (fv 2, 27)], ([.same 8] ++ sm 2 6), [], true⟩ (.c 2 ⟨(svs 13 11), [(fv 4, 1), (fv 5, 5), (fv 6, 27)], ([.same 8] ++ sm 2 6), [], true⟩ (.c 3 ⟨(svs 24 11), [(fv 7, 1), (fv 8, 5), (fv 9, 27)], ([.same 8] ++ sm 2 6), [], true⟩ (.c 4 ⟨(svs 35 11), [(fv 10, 1), (fv 11, 5), (fv 12, 27)], ([.same 8] ++ sm 2 6), [], true⟩ (.c 5 ⟨(svs 46 11), [(fv 13, 1), (fv 14, 5), (fv 15, 27)], ([.same 8] ++ sm 2 6), [], true⟩ (.d (.bin .add) [sv 66, iv 1] (rv j 0 ⟨(svs 57 9 ++ [sv 68, sv 67, iv 0]), [(fv 16, 1), (fv 17, 5), (fv 18, 27)], (sm 1 7), [], true⟩)))))))
def c26_f (j : Nat) (z : Pat) : CFn := ⟨26, c26_a, z, [⟨none, numA 0 c26_a.vs, c26_a.mem, 11, 3, c26_T0 j⟩, ⟨(some [1, 1, 1, 1, 0, 1, 0]), [(0, pp 1), (3, pp 8), (31, .chan (some 9)), (32, sv 11), (33, sv 12)], [.cells [pp 2], k20, .cells [sv 0, .chan (some 4)], .lst false 1 0, .cells [.map (some 6)], .mp 4 1, .lst false 27 2, .cells [pp 2, nlS, nlS], .lst false 2 3], 13, 4, c26_T1 j⟩], 0⟩
noncomputable def c26_c := mkf [c72_c, c73_c, c74_c, c75_c, c76_c, c77_c] (c26_f 0 c26_z0)
end Go.Proofs.YtbmbakmhnimkfaaGreat.U
