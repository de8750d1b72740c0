/- Contracts of the functions that the law reaches, by cases that its setups reach. -/
import Derived.Test.YtgddinljekkhdaaGreatUAw
set_option linter.unusedSimpArgs false
set_option linter.unusedVariables false
namespace Go.Proofs.YtgddinljekkhdaaGreat.U
open Go Go.Eng
set_option maxRecDepth 100000
noncomputable def mk (cs : List (Ctr Tryz.prog)) (F : CFn) (h1 : (patOK F.pre.mem && patOK F.post.mem && Nat.ble F.pre.mem.length F.post.mem.length && F.post.okR true) = true := by rfl) (h2 : ∀ u, F.okU cs ⟨440, 442, 240⟩ prA u = true := by intro u; kernel_rfl) (h3 : F.firstB Tryz.prog = true := by kernel_rfl) (h4 : F.first := by exact ⟨_, rfl, rfl, rfl, rfl, rfl, rfl⟩) (h5 : F.mode = 0 := by rfl) : Ctr Tryz.prog := CFn.ctr0 pok prA_ok cs F h1 h2 h3 h4 (.inl h5)
noncomputable def mkf (cs : List (Ctr Tryz.prog)) (F : CFn) (h1 : (patOK F.pre.mem && patOK F.post.mem && Nat.ble F.pre.mem.length F.post.mem.length && F.post.okR true) = true := by rfl) (h2 : ∀ u, F.okU cs ⟨440, 442, 240⟩ prA u = true := by intro u; kernel_rfl) (h3 : F.firstB Tryz.prog = true := by kernel_rfl) (h4 : F.first := by exact ⟨_, rfl, rfl, rfl, rfl, rfl, rfl⟩) (h5 : F.mode = 0 := by rfl) : Ctr Tryz.prog := Ctr.flatC (CFn.ctr0 pok prA_ok cs F h1 h2 h3 h4 (.inl h5))
def rv (j i : Nat) (a : Sub) : Tr Lf := bif Nat.beq j i then .lf (.ret a) else .x
def rp (n : Nat) (v : Value) : List Value := List.replicate n v
def ub (l : List Nat) : List Value := l.map fun n => .int .u8 (.ofNat n)
def pp (n : Nat) : Value := .pointer (some ⟨n, 0, none⟩)
def nlS : Value := .slice none 0 0
def tt : Value := .bool true
def ff : Value := .bool false
def sm : Nat → Nat → List PB
  | _, 0 => []
  | a, n + 1 => .same a :: sm (Nat.succ a) n
def k0 : LB := .cells ([iv 1, iv 1, iv 1] ++ rp 4 (iv 0) ++ [iv 1, iv 256, iv 0, iv 0, nlS, iv 0, ff, iv 0, ff, iv 4294967296, ff, iv 0, ff, iv 0, ff, iv 0, ff, iv 0, ff, iv 1, tt, iv 0, ff, iv 0, ff, iv 0, ff, iv 0, ff] ++ rp 9 (iv 0) ++ [iv 1, iv 0, iv 0, sv 16, sv 17, iv 1] ++ rp 5 (iv 0) ++ [fv 4, iv 0, ff, iv 0, ff, iv 0, ff, iv 0, ff, iv 0, ff, iv 0, ff, iv 0, ff, iv 0, ff, iv 0, ff, iv 0, ff, ff, iv 0, fv 5, ff, iv 0, ff, iv 0, ff, iv 0, ff, iv 0])
def k1 : LB := .cells ([iv 2, iv 1, iv 4, iv 0, iv 0, iv 1] ++ rp 5 (iv 0) ++ [nlS, iv 0, ff, iv 0, ff, iv 0, ff, iv 0, ff, iv 0, ff, iv 0, ff, iv 0, ff, iv 0, ff, iv 0, ff, iv 0, ff, iv 0, ff, iv 0, ff] ++ rp 9 (iv 0) ++ [iv 4, iv 0, iv 0, iv 0, iv 1, sv 33, sv 34] ++ rp 4 (iv 0) ++ [fv 4, iv 0, ff, iv 0, ff, iv 0, ff, iv 0, ff, iv 0, ff, iv 0, ff, iv 0, ff, iv 0, ff, iv 0, ff, iv 0, ff, ff, iv 0, fv 5, ff, iv 0, ff, iv 0, ff, iv 0, ff, iv 0])
def k2 : LB := .cells (ub [0, 0, 0, 103, 1] ++ rp 4 (.int .u8 (.ofNat 0)) ++ [.int .u8 (.ofNat 1)] ++ rp 6 (.int .u8 (.ofNat 0)) ++ [.int .u8 (.ofNat 1)] ++ rp 39 (.int .u8 (.ofNat 0)) ++ [.int .u8 (.ofNat 1)] ++ rp 48 (.int .u8 (.ofNat 0)) ++ [.int .u8 (.ofNat 1), .int .u8 (.ofNat 1)])
def k3 : LB := .ro (ub [0, 0, 0, 103, 1] ++ rp 4 (.int .u8 (.ofNat 0)) ++ [.int .u8 (.ofNat 1)] ++ rp 6 (.int .u8 (.ofNat 0)) ++ [.int .u8 (.ofNat 1)] ++ rp 39 (.int .u8 (.ofNat 0)) ++ [.int .u8 (.ofNat 1)] ++ rp 48 (.int .u8 (.ofNat 0)) ++ [.int .u8 (.ofNat 1), .int .u8 (.ofNat 1)])
def k4 : LB := .cells ([iv 1, iv 1, iv 1] ++ rp 4 (iv 0) ++ [iv 1, iv 256, iv 0, iv 0, nlS, iv 0, ff, iv 0, ff, iv 4294967296, ff, iv 0, ff, iv 0, ff, iv 0, ff, iv 0, ff, iv 1, tt, iv 0, ff, iv 0, ff, iv 0, ff, iv 0, ff] ++ rp 9 (iv 0))
def k5 : LB := .cells ([iv 2, iv 1, iv 4, iv 0, iv 0, iv 1] ++ rp 5 (iv 0) ++ [nlS, iv 0, ff, iv 0, ff, iv 0, ff, iv 0, ff, iv 0, ff, iv 0, ff, iv 0, ff, iv 0, ff, iv 0, ff, iv 0, ff, iv 0, ff, iv 0, ff] ++ rp 9 (iv 0))
def k6 : LB := .cells ([iv 3, iv 1, iv 10, iv 5] ++ rp 7 (iv 0) ++ [nlS, iv 0, ff, iv 0, ff, iv 0, ff, iv 0, ff, iv 0, ff, iv 0, ff, iv 0, ff, iv 0, ff, iv 0, ff, iv 0, ff, iv 0, ff, iv 0, ff] ++ rp 9 (iv 0))
def k7 : LB := .cells (rp 11 (iv 0) ++ [nlS, iv 0, ff, iv 0, ff, iv 0, ff, iv 0, ff, iv 0, ff, iv 0, ff, iv 0, ff, iv 0, ff, iv 0, ff, iv 0, ff, iv 0, ff, iv 0, ff] ++ rp 9 (iv 0))
def k8 : LB := .cells [iv 0, ff, sv 0, ff, iv 67108864, ff, sv 1, sv 2, iv 1, sv 3, sv 4, pp 2, .map (some 13), .slice (some ⟨18, 0, some 45⟩) 1 1, iv 3, iv 2]
def k9 : LB := .cells [iv 0, ff, sv 0, ff, iv 67108864, ff, sv 1, sv 2, iv 1, sv 3, sv 4, pp 2, .map (some 13), .slice (some ⟨18, 0, some 45⟩) 0 1, iv 3, iv 2]
def k10 : LB := .cells [iv 0, ff, sv 0, ff, iv 67108864, ff, sv 1, sv 2, iv 2, sv 3, sv 4, pp 2, .map (some 13), .slice (some ⟨20, 0, some 45⟩) 1 1, iv 3, iv 2]
def k11 : LB := .cells [iv 0, ff, sv 0, ff, iv 67108864, ff, sv 1, sv 2, iv 2, sv 3, sv 4, pp 2, .map (some 13), .slice (some ⟨20, 0, some 45⟩) 0 1, iv 3, iv 2]
def k12 : LB := .cells [iv 0, ff, sv 0, ff, iv 67108864, ff, sv 1, sv 2, iv 3, sv 3, sv 4, pp 2, .map (some 13), .slice (some ⟨22, 0, some 45⟩) 1 1, iv 3, iv 2]
def k13 : LB := .cells [iv 0, ff, sv 0, ff, iv 67108864, ff, sv 1, sv 2, iv 3, sv 3, sv 4, pp 2, .map (some 13), .slice (some ⟨22, 0, some 45⟩) 0 1, iv 3, iv 2]
def k14 : LB := .cells [iv 0, ff, sv 0, ff, iv 67108864, ff, sv 1, sv 2, iv 4, sv 3, sv 4, pp 2, .map (some 13), .slice (some ⟨24, 0, some 45⟩) 1 1, iv 3, iv 2]
def k15 : LB := .cells [iv 0, ff, sv 0, ff, iv 67108864, ff, sv 1, sv 2, iv 4, sv 3, sv 4, pp 2, .map (some 13), .slice (some ⟨24, 0, some 45⟩) 0 1, iv 3, iv 2]
def k16 : LB := .cells (ub [0, 0, 0, 39, 4] ++ rp 11 (.int .u8 (.ofNat 0)) ++ [.int .u8 (.ofNat 1)] ++ rp 26 (.int .u8 (.ofNat 0)))
def k17 : LB := .cells [iv 0, ff, sv 0, ff, iv 67108864, ff, sv 1, sv 2, iv 1, sv 3, sv 4, pp 2, .map (some 11), nlS, iv 0, iv 0]
def k18 : LB := .cells [iv 0, ff, sv 0, ff, iv 67108864, ff, sv 1, sv 2, iv 1, sv 3, sv 4, pp 2, .map (some 13), nlS, iv 3, iv 3]
def k19 : LB := .cells [iv 0, ff, sv 0, ff, iv 67108864, ff, sv 1, sv 2, iv 2, sv 3, sv 4, pp 2, .map (some 11), nlS, iv 0, iv 0]
def k20 : LB := .cells [iv 0, ff, sv 0, ff, iv 67108864, ff, sv 1, sv 2, iv 2, sv 3, sv 4, pp 2, .map (some 13), nlS, iv 3, iv 3]
def k21 : LB := .cells [iv 0, ff, sv 0, ff, iv 67108864, ff, sv 1, sv 2, iv 3, sv 3, sv 4, pp 2, .map (some 11), nlS, iv 0, iv 0]
def k22 : LB := .cells [iv 0, ff, sv 0, ff, iv 67108864, ff, sv 1, sv 2, iv 3, sv 3, sv 4, pp 2, .map (some 13), nlS, iv 3, iv 3]
def k23 : LB := .cells [iv 0, ff, sv 0, ff, iv 67108864, ff, sv 1, sv 2, iv 4, sv 3, sv 4, pp 2, .map (some 11), nlS, iv 0, iv 0]
def k24 : LB := .cells [iv 0, ff, sv 0, ff, iv 67108864, ff, sv 1, sv 2, iv 4, sv 3, sv 4, pp 2, .map (some 13), nlS, iv 3, iv 3]
def k25 : LB := .ro (ub [0, 0, 0, 39, 4] ++ rp 11 (.int .u8 (.ofNat 0)) ++ [.int .u8 (.ofNat 1)] ++ rp 26 (.int .u8 (.ofNat 0)))
def k26 : LB := .cells ([pp 6, pp 8] ++ svs 6 8 ++ [.chan (some 10), .slice (some ⟨11, 0, some 16⟩) 1 1, sv 30, sv 31])
def k27 : LB := .cells ([pp 6, pp 8] ++ svs 6 8 ++ [.chan (some 10), .slice (some ⟨11, 0, some 16⟩) 0 1, sv 30, sv 31])
def k28 : LB := .cells ([pp 5, pp 7] ++ svs 1 8 ++ [.chan (some 9), .slice (some ⟨10, 0, some 16⟩) 1 1, sv 25, sv 26])
def k29 : LB := .cells ([pp 2, pp 4] ++ svs 1 8 ++ [.chan (some 6), .slice (some ⟨7, 0, some 16⟩) 1 1, sv 25, sv 26])
def k30 : LB := .cells ([pp 3, pp 5] ++ svs 1 8 ++ [.chan (some 7), .slice (some ⟨8, 0, some 16⟩) 1 1, sv 25, sv 26])
def k31 : LB := .cells ([pp 3, pp 5] ++ svs 1 8 ++ [.chan (some 7), .slice (some ⟨8, 0, some 16⟩) 0 1, sv 25, sv 26])
def k32 : LB := .cells ([pp 4, ff] ++ rp 4 (tt) ++ rp 12 (ff) ++ [.slice (some ⟨12, 0, some 4⟩) 1 1])
def k33 : LB := .cells ([pp 4, ff, tt, tt, tt] ++ rp 13 (ff) ++ [.slice (some ⟨12, 0, some 4⟩) 1 1])
def k34 : LB := .cells ([pp 4, ff, tt, tt] ++ rp 14 (ff) ++ [.slice (some ⟨12, 0, some 4⟩) 1 1])
def k35 : LB := .cells (svs 0 4 ++ [fv 0] ++ svs 4 9 ++ [ff, sv 14, ff, sv 16, ff] ++ svs 18 8)
def k36 : LB := .map [⟨iv 1, pp 12, 0⟩, ⟨iv 2, pp 14, 0⟩, ⟨iv 3, pp 16, 0⟩, ⟨iv 4, pp 18, 0⟩] 0
def k37 : LB := .map [⟨iv 1, pp 12, 0⟩, ⟨iv 2, pp 16, 0⟩, ⟨iv 3, pp 18, 0⟩, ⟨iv 4, pp 20, 0⟩] 0
def k38 : LB := .map [⟨iv 1, pp 14, 0⟩, ⟨iv 2, pp 18, 0⟩, ⟨iv 3, pp 20, 0⟩, ⟨iv 4, pp 22, 0⟩] 0
def k39 : LB := .cells ([pp 4, sv 32, ff] ++ svs 33 15 ++ [.slice (some ⟨12, 0, some 4⟩) 0 1])
def k40 : LB := .cells ([pp 4, sv 32, tt] ++ svs 33 15 ++ [.slice (some ⟨12, 0, some 4⟩) 0 1])
def k41 : LB := .cells ([pp 4, ff, tt] ++ rp 15 (ff) ++ [.slice (some ⟨12, 0, some 4⟩) 1 1])
def k42 : LB := .cells ([pp 6, pp 8] ++ svs 6 8 ++ [.chan (some 10), nlS, sv 14, sv 15])
def k43 : LB := .cells ([pp 6, pp 8] ++ svs 5 8 ++ [.chan (some 10), nlS, iv 0, iv 0])
def k44 : LB := .cells ([pp 3, pp 5] ++ svs 1 8 ++ [.chan (some 7), nlS, sv 9, sv 10])
def k45 : LB := .cells ([pp 5, pp 7] ++ svs 1 8 ++ [.chan (some 9), nlS, sv 9, sv 10])
def k46 : LB := .cells ([pp 2, pp 4] ++ svs 1 8 ++ [.chan (some 6), nlS, sv 9, sv 10])
def k47 : LB := .cells ([pp 5, pp 7] ++ svs 0 8 ++ [.chan (some 9), nlS, iv 0, iv 0])
def k48 : LB := .cells ([pp 6] ++ svs 32 17 ++ [.slice (some ⟨1, 0, some 4⟩) 1 1])
def k49 : LB := .map [⟨iv 1, pp 12, 0⟩, ⟨iv 2, pp 14, 0⟩, ⟨iv 3, pp 16, 0⟩] 0
def k50 : LB := .map [⟨iv 1, pp 12, 0⟩, ⟨iv 2, pp 16, 0⟩, ⟨iv 3, pp 18, 0⟩] 0
def k51 : LB := .map [⟨iv 1, pp 14, 0⟩, ⟨iv 2, pp 18, 0⟩, ⟨iv 3, pp 20, 0⟩] 0
def k52 : LB := .map [⟨iv 2, pp 18, 0⟩, ⟨iv 3, pp 20, 0⟩, ⟨iv 4, pp 22, 0⟩] 0
def k53 : LB := .map [⟨iv 2, pp 14, 0⟩, ⟨iv 3, pp 16, 0⟩, ⟨iv 4, pp 18, 0⟩] 0
def k54 : LB := .cells ([pp 4, ff] ++ rp 4 (tt) ++ rp 12 (ff) ++ [nlS])
def k55 : LB := .cells ([pp 3, ff] ++ rp 4 (tt) ++ rp 12 (ff) ++ [nlS])
def k56 : LB := .cells ([pp 4, ff, tt, tt, tt] ++ rp 13 (ff) ++ [nlS])
def k57 : LB := .cells ([pp 3, ff, tt, tt, tt] ++ rp 13 (ff) ++ [nlS])
def k58 : LB := .cells [tt, ff, .slice (some ⟨14, 107, some 1⟩) 0 0]
def k59 : LB := .cells [tt, ff, .slice (some ⟨14, 43, some 1⟩) 0 0]
def k60 : LB := .cells [tt, ff, .slice (some ⟨16, 43, some 1⟩) 0 0]
def k61 : LB := .cells (rp 4 (.int .u8 (.ofNat 0)) ++ ub [1, 2, 3])
def k62 : LB := .cells [tt, ff, .slice (some ⟨16, 9, some 1⟩) 0 0]
def k63 : LB := .cells (svs 0 11 ++ [.chan (some 2)] ++ svs 11 33)
def k64 : LB := .cells ([pp 4, ff, tt, tt] ++ rp 14 (ff) ++ [nlS])
def k65 : LB := .cells ([pp 3, ff, tt, tt] ++ rp 14 (ff) ++ [nlS])
def k66 : LB := .cells ([pp 4, ff, tt] ++ rp 15 (ff) ++ [nlS])
def k67 : LB := .cells ([pp 3, ff, tt] ++ rp 15 (ff) ++ [nlS])
def k68 : LB := .cells [.int .u64 (.ofNat 0), .chan (some 7)]
def k69 : LB := .cells [.int .u64 (.ofNat 0), .chan (some 6)]
def k70 : LB := .map [⟨iv 1, pp 12, 0⟩, ⟨iv 2, pp 14, 0⟩] 0
def k71 : LB := .map [⟨iv 1, pp 12, 0⟩, ⟨iv 2, pp 16, 0⟩] 0
def k72 : LB := .map [⟨iv 1, pp 14, 0⟩, ⟨iv 2, pp 18, 0⟩] 0
def k73 : LB := .map [⟨iv 2, pp 18, 0⟩, ⟨iv 3, pp 20, 0⟩] 0
def k74 : LB := .map [⟨iv 2, pp 14, 0⟩, ⟨iv 3, pp 16, 0⟩] 0
def k75 : LB := .cells (ub [0, 0, 0, 5, 10, 0, 0, 0, 5])
def k76 : LB := .cells (svs 36 11 ++ [nlS] ++ svs 47 33)
def k77 : LB := .cells (svs 52 11 ++ [nlS] ++ svs 63 33)
def k78 : LB := .cells (ub [0, 0, 0, 5, 10, 0, 0, 0, 1])
def k79 : LB := .cells (svs 0 11 ++ [nlS] ++ svs 11 33)
def k80 : LB := .cells ([pp 4] ++ rp 17 (ff) ++ [nlS])
def k81 : LB := .cells (svs 0 4 ++ [fv 0] ++ svs 4 22)
def c6_a : Pat := ⟨[sv 0, sv 1], [], 2, 0⟩
def c6_z0 : Pat := ⟨[ag [iv 0, ff, sv 2, ff, iv 67108864, ff, sv 6, sv 7, iv 1, sv 8, sv 9]], [], 10, 0⟩
def c6_z1 : Pat := ⟨[ag [iv 0, ff, sv 2, ff, iv 67108864, ff, sv 6, sv 7, iv 2, sv 8, sv 9]], [], 10, 0⟩
def c6_z2 : Pat := ⟨[ag [iv 0, ff, sv 2, ff, iv 67108864, ff, sv 6, sv 7, iv 3, sv 8, sv 9]], [], 10, 0⟩
def c6_z3 : Pat := ⟨[ag [iv 0, ff, sv 2, ff, iv 67108864, ff, sv 6, sv 7, iv 4, sv 8, sv 9]], [], 10, 0⟩
def c6_T0 (j : Nat) : Tr Lf := .d (.conv .u64) [sv 0] (.d (.bin .rem) [sv 2, .int .u64 (.ofNat 4)] (.d (.bin .quo) [sv 2, .int .u64 (.ofNat 4)] (.d (.bin .mul) [sv 4, .int .u64 (.ofNat 6364136223846793005)] (.d (.bin .rem) [sv 2, .int .u64 (.ofNat 1000003)] (.d (.bin .add) [sv 5, sv 6] (.d (.conv .i64) [sv 3] (.d (.bin .add) [iv 1, sv 8] (.d (.bin .rem) [sv 7, .int .u64 (.ofNat 8)] (.d (.bin .quo) [sv 7, .int .u64 (.ofNat 8)] (.d (.bin .mul) [sv 11, .int .u64 (.ofNat 6364136223846793005)] (.d (.bin .rem) [sv 7, .int .u64 (.ofNat 1000003)] (.d (.bin .add) [sv 12, sv 13] (.d (.conv .i64) [sv 10] (.d (.bin .add) [iv 1, sv 15] (.d (.bin .rem) [sv 14, .int .u64 (.ofNat 6)] (.d (.bin .quo) [sv 14, .int .u64 (.ofNat 6)] (.d (.bin .mul) [sv 18, .int .u64 (.ofNat 6364136223846793005)] (.d (.bin .rem) [sv 14, .int .u64 (.ofNat 1000003)] (.d (.bin .add) [sv 19, sv 20] (.d (.conv .i64) [sv 17] (.d (.bin .add) [iv 1, sv 22] (.d (.bin .rem) [sv 21, .int .u64 (.ofNat 4)] (.d (.bin .quo) [sv 21, .int .u64 (.ofNat 4)] (.d (.bin .mul) [sv 25, .int .u64 (.ofNat 6364136223846793005)] (.d (.bin .rem) [sv 21, .int .u64 (.ofNat 1000003)] (.d (.bin .add) [sv 26, sv 27] (.d (.conv .i64) [sv 24] (.d (.bin .add) [iv 1, sv 29] (.d (.bin .rem) [sv 28, .int .u64 (.ofNat 2)] (.d (.bin .quo) [sv 28, .int .u64 (.ofNat 2)] (.d (.bin .mul) [sv 32, .int .u64 (.ofNat 6364136223846793005)] (.d (.bin .rem) [sv 28, .int .u64 (.ofNat 1000003)] (.d (.bin .add) [sv 33, sv 34] (.d (.conv .i64) [sv 31] (.t (.bin .eql) [sv 36, iv 1] (.t .eqi [sv 9, iv 1] (rv j 0 ⟨[iv 0, ff, nv 34359738367, ff, iv 67108864, ff, sv 23, sv 30, sv 16, sv 1], [], [], [], true⟩) (.t .eqi [sv 9, iv 2] (rv j 1 ⟨[iv 0, ff, nv 34359738367, ff, iv 67108864, ff, sv 23, sv 30, sv 16, sv 1], [], [], [], true⟩) (.t .eqi [sv 9, iv 3] (rv j 2 ⟨[iv 0, ff, nv 34359738367, ff, iv 67108864, ff, sv 23, sv 30, sv 16, sv 1], [], [], [], true⟩) (.t .eqi [sv 9, iv 4] (rv j 3 ⟨[iv 0, ff, nv 34359738367, ff, iv 67108864, ff, sv 23, sv 30, sv 16, sv 1], [], [], [], true⟩) (.x))))) (.t .eqi [sv 9, iv 1] (rv j 0 ⟨[iv 0, ff, iv 0, ff, iv 67108864, ff, sv 23, sv 30, sv 16, sv 1], [], [], [], true⟩) (.t .eqi [sv 9, iv 2] (rv j 1 ⟨[iv 0, ff, iv 0, ff, iv 67108864, ff, sv 23, sv 30, sv 16, sv 1], [], [], [], true⟩) (.t .eqi [sv 9, iv 3] (rv j 2 ⟨[iv 0, ff, iv 0, ff, iv 67108864, ff, sv 23, sv 30, sv 16, sv 1], [], [], [], true⟩) (.t .eqi [sv 9, iv 4] (rv j 3 ⟨[iv 0, ff, iv 0, ff, iv 67108864, ff, sv 23, sv 30, sv 16, sv 1], [], [], [], true⟩) (.x))))))))))))))))))))))))))))))))))))))))
def c6_f (j : Nat) (z : Pat) : CFn := ⟨6, c6_a, z, [⟨none, numA 0 c6_a.vs, c6_a.mem, 2, 0, c6_T0 j⟩], 0⟩
noncomputable def c6v0_c := mk [] (c6_f 0 c6_z0)
noncomputable def c6v1_c := mk [] (c6_f 1 c6_z1)
noncomputable def c6v2_c := mk [] (c6_f 2 c6_z2)
noncomputable def c6v3_c := mk [] (c6_f 3 c6_z3)

def c149_a : Pat := ⟨[sv 0], [], 1, 0⟩
def c149_z0 : Pat := ⟨[ag [sv 0, sv 1, .int .u64 (.ofNat 0)]], [], 3, 0⟩
def c149_T0 (j : Nat) : Tr Lf := .t (.bin .lss) [sv 0, iv 0] (.d (.conv .u64) [sv 0] (.d (.un .neg) [sv 1] (rv j 0 ⟨[tt, sv 2, .int .u64 (.ofNat 0)], [], [], [], true⟩))) (.d (.conv .u64) [sv 0] (rv j 0 ⟨[ff, sv 1, .int .u64 (.ofNat 0)], [], [], [], true⟩))
def c149_f (j : Nat) (z : Pat) : CFn := ⟨149, c149_a, z, [⟨none, numA 0 c149_a.vs, c149_a.mem, 1, 0, c149_T0 j⟩], 0⟩
noncomputable def c149_c := mk [] (c149_f 0 c149_z0)

def c176_a : Pat := ⟨[sv 0], [], 1, 0⟩
def c176_z0 : Pat := ⟨[sv 0], [], 1, 0⟩
def c176_T0 (j : Nat) : Tr Lf := .t (.bin .geq) [sv 0, .int .u64 (.ofNat 4294967296)] (.d (.bin .shr) [sv 0, .int .u64 (.ofNat 32)] (.t (.bin .geq) [sv 1, .int .u64 (.ofNat 65536)] (.x) (.t (.bin .geq) [sv 1, .int .u64 (.ofNat 256)] (.x) (.d (.conv .u8) [sv 1] (.d .sidx [.string ⟨⟨[0, 1, 2, 2, 3, 3, 3, 3, 4, 4, 4, 4, 4, 4, 4, 4, 5, 5, 5, 5, 5, 5, 5, 5, 5, 5, 5, 5, 5, 5, 5, 5, 6, 6, 6, 6, 6, 6, 6, 6, 6, 6, 6, 6, 6, 6, 6, 6, 6, 6, 6, 6, 6, 6, 6, 6, 6, 6, 6, 6, 6, 6, 6, 6, 7, 7, 7, 7, 7, 7, 7, 7, 7, 7, 7, 7, 7, 7, 7, 7, 7, 7, 7, 7, 7, 7, 7, 7, 7, 7, 7, 7, 7, 7, 7, 7, 7, 7, 7, 7, 7, 7, 7, 7, 7, 7, 7, 7, 7, 7, 7, 7, 7, 7, 7, 7, 7, 7, 7, 7, 7, 7, 7, 7, 7, 7, 7, 7, 8, 8, 8, 8, 8, 8, 8, 8, 8, 8, 8, 8, 8, 8, 8, 8, 8, 8, 8, 8, 8, 8, 8, 8, 8, 8, 8, 8, 8, 8, 8, 8, 8, 8, 8, 8, 8, 8, 8, 8, 8, 8, 8, 8, 8, 8, 8, 8, 8, 8, 8, 8, 8, 8, 8, 8, 8, 8, 8, 8, 8, 8, 8, 8, 8, 8, 8, 8, 8, 8, 8, 8, 8, 8, 8, 8, 8, 8, 8, 8, 8, 8, 8, 8, 8, 8, 8, 8, 8, 8, 8, 8, 8, 8, 8, 8, 8, 8, 8, 8, 8, 8, 8, 8, 8, 8, 8, 8, 8, 8, 8, 8, 8, 8, 8, 8, 8, 8, 8, 8, 8, 8, 8, 8, 8, 8, 8, 8]⟩⟩, sv 2] (.d (.conv .i64) [sv 3] (.d (.bin .add) [iv 32, sv 4] (rv j 0 ⟨[sv 5], [], [], [], true⟩)))))))) (.t (.bin .geq) [sv 0, .int .u64 (.ofNat 65536)] (.x) (.t (.bin .geq) [sv 0, .int .u64 (.ofNat 256)] (.x) (.d (.conv .u8) [sv 0] (.d .sidx [.string ⟨⟨[0, 1, 2, 2, 3, 3, 3, 3, 4, 4, 4, 4, 4, 4, 4, 4, 5, 5, 5, 5, 5, 5, 5, 5, 5, 5, 5, 5, 5, 5, 5, 5, 6, 6, 6, 6, 6, 6, 6, 6, 6, 6, 6, 6, 6, 6, 6, 6, 6, 6, 6, 6, 6, 6, 6, 6, 6, 6, 6, 6, 6, 6, 6, 6, 7, 7, 7, 7, 7, 7, 7, 7, 7, 7, 7, 7, 7, 7, 7, 7, 7, 7, 7, 7, 7, 7, 7, 7, 7, 7, 7, 7, 7, 7, 7, 7, 7, 7, 7, 7, 7, 7, 7, 7, 7, 7, 7, 7, 7, 7, 7, 7, 7, 7, 7, 7, 7, 7, 7, 7, 7, 7, 7, 7, 7, 7, 7, 7, 8, 8, 8, 8, 8, 8, 8, 8, 8, 8, 8, 8, 8, 8, 8, 8, 8, 8, 8, 8, 8, 8, 8, 8, 8, 8, 8, 8, 8, 8, 8, 8, 8, 8, 8, 8, 8, 8, 8, 8, 8, 8, 8, 8, 8, 8, 8, 8, 8, 8, 8, 8, 8, 8, 8, 8, 8, 8, 8, 8, 8, 8, 8, 8, 8, 8, 8, 8, 8, 8, 8, 8, 8, 8, 8, 8, 8, 8, 8, 8, 8, 8, 8, 8, 8, 8, 8, 8, 8, 8, 8, 8, 8, 8, 8, 8, 8, 8, 8, 8, 8, 8, 8, 8, 8, 8, 8, 8, 8, 8, 8, 8, 8, 8, 8, 8, 8, 8, 8, 8, 8, 8, 8, 8, 8, 8, 8, 8]⟩⟩, sv 1] (.d (.conv .i64) [sv 2] (.d (.bin .add) [iv 0, sv 3] (rv j 0 ⟨[sv 4], [], [], [], true⟩)))))))
def c176_f (j : Nat) (z : Pat) : CFn := ⟨176, c176_a, z, [⟨none, numA 0 c176_a.vs, c176_a.mem, 1, 0, c176_T0 j⟩], 0⟩
noncomputable def c176_c := mk [] (c176_f 0 c176_z0)

def c151_a : Pat := ⟨(svs 0 3), [], 3, 0⟩
def c151_z0 : Pat := ⟨[sv 0, sv 1], [], 2, 0⟩
def c151_T0 (j : Nat) : Tr Lf := .t (.bin .eql) [sv 2, .int .u64 (.ofNat 0)] (.x) (.t (.bin .leq) [sv 2, sv 0] (.x) (.t (.bin .eql) [sv 0, .int .u64 (.ofNat 0)] (.d (.bin .quo) [sv 1, sv 2] (.d (.bin .rem) [sv 1, sv 2] (rv j 0 ⟨[sv 3, sv 4], [], [], [], true⟩))) (.c 0 ⟨[sv 2], [], [], [], true⟩ (.d (.bin .sub) [iv 64, sv 3] (.d (.conv .u64) [sv 4] (.d (.bin .shl) [sv 2, sv 5] (.d (.bin .shr) [sv 6, .int .u64 (.ofNat 32)] (.d (.bin .and) [sv 6, .int .u64 (.ofNat 4294967295)] (.d (.bin .shl) [sv 0, sv 5] (.d (.bin .sub) [.int .u64 (.ofNat 64), sv 5] (.d (.bin .shr) [sv 1, sv 10] (.d (.bin .or) [sv 9, sv 11] (.d (.bin .shl) [sv 1, sv 5] (.d (.bin .shr) [sv 13, .int .u64 (.ofNat 32)] (.d (.bin .and) [sv 13, .int .u64 (.ofNat 4294967295)] (.d (.bin .quo) [sv 12, sv 7] (.d (.bin .mul) [sv 16, sv 7] (.d (.bin .sub) [sv 12, sv 17] (.lf (.go 1 ⟨([sv 6, sv 5, sv 7, sv 8, sv 12] ++ svs 14 3 ++ [sv 18]), [], [], [], true⟩))))))))))))))))))))
def c151_T1 (j : Nat) : Tr Lf := .t (.bin .geq) [sv 7, .int .u64 (.ofNat 4294967296)] (.x) (.d (.bin .mul) [sv 7, sv 3] (.d (.bin .mul) [.int .u64 (.ofNat 4294967296), sv 8] (.d (.bin .add) [sv 10, sv 5] (.t (.bin .gtr) [sv 9, sv 11] (.x) (.d (.bin .mul) [sv 4, .int .u64 (.ofNat 4294967296)] (.d (.bin .add) [sv 12, sv 5] (.d (.bin .mul) [sv 7, sv 0] (.d (.bin .sub) [sv 13, sv 14] (.d (.bin .quo) [sv 15, sv 2] (.d (.bin .mul) [sv 16, sv 2] (.d (.bin .sub) [sv 15, sv 17] (.lf (.go 2 ⟨(svs 0 4 ++ [sv 6, sv 7, sv 18, sv 15, sv 16]), [], [], [], true⟩)))))))))))))
def c151_T2 (j : Nat) : Tr Lf := .t (.bin .geq) [sv 8, .int .u64 (.ofNat 4294967296)] (.x) (.d (.bin .mul) [sv 8, sv 3] (.d (.bin .mul) [.int .u64 (.ofNat 4294967296), sv 6] (.d (.bin .add) [sv 10, sv 4] (.t (.bin .gtr) [sv 9, sv 11] (.x) (.d (.bin .mul) [sv 5, .int .u64 (.ofNat 4294967296)] (.d (.bin .add) [sv 12, sv 8] (.d (.bin .mul) [sv 7, .int .u64 (.ofNat 4294967296)] (.d (.bin .add) [sv 14, sv 4] (.d (.bin .mul) [sv 8, sv 0] (.d (.bin .sub) [sv 15, sv 16] (.d (.bin .shr) [sv 17, sv 1] (rv j 0 ⟨[sv 13, sv 18], [], [], [], true⟩))))))))))))
def c151_f (j : Nat) (z : Pat) : CFn := ⟨151, c151_a, z, [⟨none, numA 0 c151_a.vs, c151_a.mem, 3, 0, c151_T0 j⟩, ⟨(some [1, 1, 1, 1, 1, 1, 1, 1, 1, 1, 1, 1, 1, 1, 0, 0]), [(2, sv 0), (8, sv 1), (9, sv 2), (10, sv 3), (11, sv 4), (13, sv 5), (14, sv 6), (15, sv 7), (16, sv 8)], [], 9, 0, c151_T1 j⟩, ⟨(some [1, 1, 1, 1, 1, 1, 1, 1, 1, 1, 1, 1, 1, 1, 1, 1, 1, 1, 0, 0]), [(2, sv 0), (8, sv 1), (9, sv 2), (10, sv 3), (14, sv 4), (15, sv 5), (16, sv 6), (17, sv 7), (18, sv 8)], [], 9, 0, c151_T2 j⟩], 0⟩
noncomputable def c151_c := mk [c176_c] (c151_f 0 c151_z0)

def c152_a : Pat := ⟨[ag (svs 0 3), sv 3], [], 4, 0⟩
def c152_z0 : Pat := ⟨[ag [sv 0, sv 1]], [], 2, 0⟩
def c152_T0 (j : Nat) : Tr Lf := .t (.bin .eql) [sv 2, .int .u64 (.ofNat 0)] (.t (.bin .leq) [sv 1, .int .u64 (.ofNat 9223372036854775807)] (.d (.conv .i64) [sv 1] (.t .truth [sv 0] (.d (.un .neg) [sv 4] (rv j 0 ⟨[sv 5, sv 3], [], [], [], true⟩)) (rv j 0 ⟨[sv 4, sv 3], [], [], [], true⟩))) (.x)) (.x)
def c152_f (j : Nat) (z : Pat) : CFn := ⟨152, c152_a, z, [⟨none, numA 0 c152_a.vs, c152_a.mem, 4, 0, c152_T0 j⟩], 0⟩
noncomputable def c152_c := mk [] (c152_f 0 c152_z0)

def c89_a : Pat := ⟨[sv 0, sv 1], [], 2, 0⟩
def c89_z0 : Pat := ⟨[ag [sv 0, sv 1]], [], 2, 0⟩
def c89_T0 (j : Nat) : Tr Lf := .t (.bin .eql) [sv 1, iv 0] (.x) (.c 0 ⟨[sv 0], [], [], [], true⟩ (.d (.bin .shl) [sv 3, .int .u64 (.ofNat 32)] (.d (.bin .shr) [sv 3, .int .u64 (.ofNat 32)] (.d (.bin .or) [.int .u64 (.ofNat 0), sv 6] (.c 0 ⟨[sv 1], [], [], [], true⟩ (.d (.bin .quo) [sv 7, sv 9] (.d (.bin .rem) [sv 7, sv 9] (.c 1 ⟨[sv 12, sv 5, sv 9], [], [], [], true⟩ (.t (.beq true) [sv 2, sv 8] (.x) (.c 2 ⟨[ff, sv 13, sv 11, ff], [], [], [], true⟩ (rv j 0 ⟨[sv 15, sv 16], [], [], [], true⟩)))))))))))
def c89_f (j : Nat) (z : Pat) : CFn := ⟨89, c89_a, z, [⟨none, numA 0 c89_a.vs, c89_a.mem, 2, 0, c89_T0 j⟩], 0⟩
noncomputable def c89_c := mk [c149_c, c151_c, c152_c] (c89_f 0 c89_z0)

def c148_a : Pat := ⟨[ag [sv 0, sv 1]], [], 2, 0⟩
def c148_z0 : Pat := ⟨[ag [sv 0, sv 1]], [], 2, 0⟩
def c148_T0 (j : Nat) : Tr Lf := .t (.bin .eql) [sv 0, nv 9223372036854775807] (.x) (rv j 0 ⟨[sv 0, sv 1], [], [], [], true⟩)
def c148_f (j : Nat) (z : Pat) : CFn := ⟨148, c148_a, z, [⟨none, numA 0 c148_a.vs, c148_a.mem, 2, 0, c148_T0 j⟩], 0⟩
noncomputable def c148_c := mk [] (c148_f 0 c148_z0)

def c147_a : Pat := ⟨[sv 0, sv 1], [], 2, 0⟩
def c147_z0 : Pat := ⟨[sv 0], [], 1, 0⟩
def c147_T0 (j : Nat) : Tr Lf := .t (.bin .neq) [sv 0, sv 0] (.x) (.t (.bin .neq) [sv 1, sv 1] (.x) (.t (.bin .lss) [sv 0, sv 1] (rv j 0 ⟨[nv 0], [], [], [], true⟩) (.t (.bin .gtr) [sv 0, sv 1] (rv j 0 ⟨[iv 1], [], [], [], true⟩) (rv j 0 ⟨[iv 0], [], [], [], true⟩))))
def c147_f (j : Nat) (z : Pat) : CFn := ⟨147, c147_a, z, [⟨none, numA 0 c147_a.vs, c147_a.mem, 2, 0, c147_T0 j⟩], 0⟩
noncomputable def c147_c := mk [] (c147_f 0 c147_z0)

def c310_a : Pat := ⟨[.slice (some ⟨1, 0, none⟩) 2 2], [.cells (svs 0 4)], 4, 0⟩
def c310_z0 : Pat := ⟨[.slice (some ⟨2, 0, none⟩) 2 2, sv 6], [.cells (svs 0 4), .cells [sv 4, sv 5]], 7, 0⟩
def c310_T0 (j : Nat) : Tr Lf := .c 0 ⟨[sv 0, sv 1], [], [], [], true⟩ (.c 0 ⟨[sv 2, sv 3], [], [], [], true⟩ (.t .truth [sv 5] (.x) (rv j 0 ⟨(svs 0 5 ++ [sv 6, sv 7]), [], [.same 1, .same 2], [], true⟩)))
def c310_f (j : Nat) (z : Pat) : CFn := ⟨310, c310_a, z, [⟨none, numA 0 c310_a.vs, c310_a.mem, 4, 0, c310_T0 j⟩], 0⟩
noncomputable def c310_c := mk [c148_c] (c310_f 0 c310_z0)

def c311_a : Pat := ⟨[sv 0, sv 1, .slice (some ⟨1, 1, none⟩) 1 1], [.cells [sv 2, sv 3]], 4, 0⟩
def c311_z0 : Pat := ⟨[sv 2], [.cells [sv 0, sv 1]], 3, 0⟩
def c311_T0 (j : Nat) : Tr Lf := .c 0 ⟨[sv 3, sv 1], [], [], [], true⟩ (.d (.bin .mul) [sv 4, sv 0] (.t (.bin .lss) [sv 5, iv 0] (rv j 0 ⟨[sv 2, sv 3, sv 3], [], [.same 1], [], true⟩) (rv j 0 ⟨[sv 2, sv 3, sv 1], [], [.same 1], [], true⟩)))
def c311_f (j : Nat) (z : Pat) : CFn := ⟨311, c311_a, z, [⟨none, numA 0 c311_a.vs, c311_a.mem, 4, 0, c311_T0 j⟩], 0⟩
noncomputable def c311_c := mk [c147_c] (c311_f 0 c311_z0)

def c236_a : Pat := ⟨[sv 0, .slice (some ⟨1, 0, none⟩) 2 2], [.cells (svs 1 4)], 5, 0⟩
def c236_z0 : Pat := ⟨[ag [sv 4, sv 5]], [.cells (svs 0 4)], 6, 0⟩
def c236_T0 (j : Nat) : Tr Lf := .c 0 ⟨(svs 1 4), [], [.same 1], [], true⟩ (.c 1 ⟨[sv 0, sv 9, sv 9, sv 10], [], [.same 3], [], true⟩ (rv j 0 ⟨(svs 5 4 ++ [sv 14, sv 11]), [], [.same 1], [], true⟩))
def c236_f (j : Nat) (z : Pat) : CFn := ⟨236, c236_a, z, [⟨none, numA 0 c236_a.vs, c236_a.mem, 5, 0, c236_T0 j⟩], 0⟩
noncomputable def c236_c := mk [c310_c, c311_c] (c236_f 0 c236_z0)

def c90_a : Pat := ⟨[sv 0, .slice (some ⟨1, 0, none⟩) 1 1], [.cells (svs 1 4)], 5, 0⟩
def c90_z0 : Pat := ⟨[tt], [.cells (svs 0 4)], 5, 0⟩
def c90_T0 (j : Nat) : Tr Lf := .c 0 ⟨[sv 1, sv 2], [], [], [], true⟩ (.d (.un .neg) [sv 5] (.d (.mm true) [sv 5, sv 7] (.c 0 ⟨[sv 3, sv 4], [], [], [], true⟩ (.d (.un .neg) [sv 9] (.d (.mm true) [sv 9, sv 11] (.c 1 ⟨[nv 0, sv 8, sv 6, sv 12, sv 10], [], [.same 7], [], true⟩ (.t .truth [sv 18] (.x) (.d (.bin .shl) [sv 0, .int .u64 (.ofNat 32)] (.t (.bin .gtr) [sv 17, sv 19] (.x) (rv j 0 ⟨(svs 1 4 ++ [tt]), [], [.same 1], [], true⟩))))))))))
def c90_f (j : Nat) (z : Pat) : CFn := ⟨90, c90_a, z, [⟨none, numA 0 c90_a.vs, c90_a.mem, 5, 0, c90_T0 j⟩], 0⟩
noncomputable def c90_c := mk [c148_c, c236_c] (c90_f 0 c90_z0)

def c61_a : Pat := ⟨[ag (svs 0 8)], [], 8, 0⟩
def c61_z0 : Pat := ⟨[iv 0], [], 1, 0⟩
def c61_T0 (j : Nat) : Tr Lf := .c 0 ⟨[iv 1, iv 1024], [], [], [], true⟩ (.c 1 ⟨[sv 4, sv 5], [], [], [], true⟩ (.c 1 ⟨[sv 8, sv 9], [], [], [], true⟩ (.c 2 ⟨[sv 10, sv 12], [], [], [], true⟩ (.t (.bin .geq) [sv 14, iv 0] (.c 0 ⟨[iv 1, iv 8], [], [], [], true⟩ (.c 1 ⟨[sv 15, sv 16], [], [], [], true⟩ (.c 2 ⟨[sv 10, sv 17], [], [], [], true⟩ (.t (.bin .leq) [sv 19, iv 0] (.d (.un .not) [sv 5] (.d (.un .not) [sv 20] (.t .truth [sv 21] (.x) (.c 3 ⟨([iv 64] ++ svs 0 4), [], [.same 6], [], true⟩ (.t (.bin .lss) [sv 6, iv 1] (.x) (.t (.bin .gtr) [sv 6, iv 64] (.x) (.t (.bin .lss) [sv 7, iv 1] (.x) (.t (.bin .gtr) [sv 7, iv 16] (.x) (rv j 0 ⟨[iv 0], [], [], [], true⟩))))))))) (.x))))) (.x)))))
def c61_f (j : Nat) (z : Pat) : CFn := ⟨61, c61_a, z, [⟨none, numA 0 c61_a.vs, c61_a.mem, 8, 0, c61_T0 j⟩], 0⟩
noncomputable def c61_c := mk [c89_c, c148_c, c147_c, c90_c] (c61_f 0 c61_z0)

def c91_a : Pat := ⟨[sv 0], [], 1, 0⟩
def c91_z0 : Pat := ⟨[pp 1, iv 0], [.cells [.int .u64 (.ofNat 0), .chan (some 2)], .lst false 1 0], 2, 1⟩
def c91_T0 (j : Nat) : Tr Lf := .t (.bin .lss) [sv 0, iv 1] (.x) (.t (.bin .gtr) [sv 0, iv 64] (.x) (.t (.bin .leq) [sv 0, iv 1048576] (.e .rep [sv 0, iv 0] (rv j 0 ⟨[.int .u64 (.ofNat 0), iv 0], [(fv 0, 1)], [.same 2, .same 1], [], true⟩)) (.x)))
def c91_f (j : Nat) (z : Pat) : CFn := ⟨91, c91_a, z, [⟨none, numA 0 c91_a.vs, c91_a.mem, 1, 0, c91_T0 j⟩], 0⟩
noncomputable def c91_c := mkf [] (c91_f 0 c91_z0)

def c62_a : Pat := ⟨[ag (svs 0 8)], [], 8, 0⟩
def c62_z0 : Pat := ⟨[pp 1, iv 0], [.cells [pp 2], .cells ([pp 3, pp 5] ++ svs 1 8 ++ [.chan (some 7), nlS, iv 0, iv 0]), .cells [.int .u64 (.ofNat 0), .chan (some 4)], .lst false 1 0, .cells [.map (some 6)], .mp 4 1, .lst false 27 2], 12, 3⟩
def c62_T0 (j : Nat) : Tr Lf := .c 0 ⟨(svs 0 8), [], [], [], true⟩ (.c 1 ⟨[sv 6], [], [], [], true⟩ (.t (.bin .leq) [sv 6, iv 1048576] (.e .rep ([sv 6] ++ rp 4 (iv 0) ++ [nlS, iv 0, ff, iv 0, ff, iv 0, ff, iv 0, ff, iv 0, ff, iv 0, ff, iv 0, ff, iv 0, ff, iv 0, ff, iv 0, ff, ff, iv 0]) (rv j 0 ⟨([.int .u64 (.ofNat 0)] ++ svs 0 8 ++ [iv 0, iv 0, iv 0]), [(fv 0, 1), (nlS, 5), (fv 1, 27)], [.same 9, .same 8, .same 2, .same 3, .same 6, .same 5, .same 7], [], true⟩)) (.x)))
def c62_f (j : Nat) (z : Pat) : CFn := ⟨62, c62_a, z, [⟨none, numA 0 c62_a.vs, c62_a.mem, 8, 0, c62_T0 j⟩], 0⟩
noncomputable def c62_c := mkf [c61_c, c91_c] (c62_f 0 c62_z0)

def c7_3_a : Pat := ⟨[ag [iv 0, ff, sv 0, ff, iv 67108864, ff, sv 1, sv 2, iv 1, sv 3, sv 4]], [], 5, 0⟩
def c7_3_z0 : Pat := ⟨[pp 1, iv 0], [k17, .cells [pp 3], k80, .cells [pp 5], k43, k68, .lst false 1 0, .cells [.map (some 9)], .mp 4 1, .lst false 27 2, .map [] 0], 13, 3⟩
def c7_3_T0 (j : Nat) : Tr Lf := .c 0 ⟨[iv 0, ff, sv 0, ff, iv 67108864, ff, sv 1, sv 2], [], [], [], true⟩ (.t (.bin .lss) [sv 3, iv 1] (.x) (.t (.bin .gtr) [sv 3, iv 64] (.x) (.t (.bin .lss) [sv 4, iv 1] (.x) (.t (.bin .gtr) [sv 4, iv 65536] (.x) (.c 1 ⟨[iv 0, ff, sv 0, ff, iv 67108864, ff, sv 1, sv 2], [], [], [], true⟩ (rv j 0 ⟨(svs 0 5 ++ svs 7 8), [(fv 0, 1), (fv 1, 5), (fv 2, 27)], ([.same 14, .same 12, .same 11] ++ sm 4 7 ++ [.same 13]), [], true⟩))))))
def c7_3_f (j : Nat) (z : Pat) : CFn := ⟨7, c7_3_a, z, [⟨none, numA 0 c7_3_a.vs, c7_3_a.mem, 5, 0, c7_3_T0 j⟩], 0⟩
noncomputable def c7_3_c := mkf [c61_c, c62_c] (c7_3_f 0 c7_3_z0)

def c10_12_a : Pat := ⟨[pp 1], [k17, .cells [pp 3], k80, .cells [pp 5], k43, k68, .lst false 1 0, .cells [.map (some 9)], .mp 4 1, .lst false 27 2, .map [] 0], 13, 3⟩
def c10_12_z0 : Pat := ⟨[iv 1, iv 0], [k17, .cells [pp 3], k66, .cells [pp 5], k43, k68, .lst false 1 0, .cells [.map (some 9)], .mp 4 1, .lst false 27 2, .map [⟨iv 1, pp 12, 0⟩] 0, .cells [pp 13, nlS], .cells [tt, ff, nlS]], 13, 3⟩
def c10_12_T0 (j : Nat) : Tr Lf := rv j 0 ⟨(svs 0 13), [(fv 0, 1), (fv 1, 5), (fv 2, 27)], (sm 1 11 ++ [.same 13, .same 12]), [], true⟩
def c10_12_f (j : Nat) (z : Pat) : CFn := ⟨10, c10_12_a, z, [⟨none, numA 0 c10_12_a.vs, c10_12_a.mem, 13, 3, c10_12_T0 j⟩], 0⟩
noncomputable def c10_12_c := mkf [] (c10_12_f 0 c10_12_z0)

def c79_a : Pat := ⟨[ag (svs 0 4 ++ [fv 0]), ag (svs 4 4 ++ [fv 1])], [], 8, 2⟩
def c79_z0 : Pat := ⟨[tt], [], 1, 0⟩
def c79_T0 (j : Nat) : Tr Lf := .t (.bin .neq) [sv 0, sv 4] (.x) (.t (.bin .neq) [sv 1, sv 5] (.x) (.t (.bin .neq) [sv 2, sv 6] (.x) (.t (.bin .neq) [sv 3, sv 7] (.x) (.e .len [fv 0] (.e .len [fv 1] (.t (.bin .neq) [sv 8, sv 9] (.x) (.lf (.go 1 ⟨(svs 0 8 ++ [iv 0]), [(fv 0, 2), (fv 1, 2)], [.same 1, .same 2], [], true⟩))))))))
def c79_T1 (j : Nat) : Tr Lf := .e .len [fv 0] (.t (.bin .lss) [sv 8, sv 9] (.x) (rv j 0 ⟨[tt], [], [], [], true⟩))
def c79_f (j : Nat) (z : Pat) : CFn := ⟨79, c79_a, z, [⟨none, numA 0 c79_a.vs, c79_a.mem, 8, 2, c79_T0 j⟩, ⟨(some [1, 1, 0, 1, 0]), [(2, pp 1), (3, pp 2), (5, sv 8)], [.cells (svs 0 4 ++ [fv 0]), .cells (svs 4 4 ++ [fv 1])], 9, 2, c79_T1 j⟩], 0⟩
noncomputable def c79_c := mk [] (c79_f 0 c79_z0)

def c18_18_a : Pat := ⟨[pp 1, iv 1, .slice (some ⟨14, 0, some 1⟩) 107 107], [k17, .cells [pp 3], k66, .cells [pp 5], k43, k68, .lst false 1 0, .cells [.map (some 9)], .mp 4 1, .lst false 27 2, .map [⟨iv 1, pp 12, 0⟩] 0, .cells [pp 13, nlS], .cells [tt, ff, nlS], k3], 13, 3⟩
def c18_18_z0 : Pat := ⟨[iv 0], [.cells [iv 0, ff, sv 0, ff, iv 67108864, ff, sv 1, sv 2, iv 1, sv 3, sv 4, pp 2, .map (some 11), .slice (some ⟨16, 0, some 45⟩) 1 1, iv 1, iv 0], .cells [pp 3], k66, .cells [pp 5], k43, k68, .lst false 1 0, .cells [.map (some 9)], .mp 4 1, .lst false 27 2, .map [⟨iv 1, pp 12, 0⟩] 0, .cells [pp 13, nlS], .cells [tt, ff, .slice (some ⟨15, 107, some 1⟩) 0 0], k3, k2, k4], 13, 3⟩
def c18_18_T0 (j : Nat) : Tr Lf := .t (.bin .geq) [iv 0, sv 3] (.x) (rv j 0 ⟨(svs 0 13), [(fv 0, 1), (fv 1, 5), (fv 2, 27)], (sm 1 15 ++ [.same 36]), [], true⟩)
def c18_18_f (j : Nat) (z : Pat) : CFn := ⟨18, c18_18_a, z, [⟨none, numA 0 c18_18_a.vs, c18_18_a.mem, 13, 3, c18_18_T0 j⟩], 0⟩
noncomputable def c18_18_c := mkf [] (c18_18_f 0 c18_18_z0)

def c314_a : Pat := ⟨[fv 0, fv 1], [], 0, 2⟩
def c314_z0 : Pat := ⟨[tt], [], 1, 0⟩
def c314_T0 (j : Nat) : Tr Lf := .e .len [fv 0] (.e .len [fv 1] (.t (.bin .neq) [sv 0, sv 1] (.x) (.lf (.go 1 ⟨[sv 0, iv 0], [(fv 0, 2), (fv 1, 2)], [], [], true⟩))))
def c314_T1 (j : Nat) : Tr Lf := .t (.bin .lss) [sv 1, sv 0] (.x) (rv j 0 ⟨[tt], [], [], [], true⟩)
def c314_f (j : Nat) (z : Pat) : CFn := ⟨314, c314_a, z, [⟨none, numA 0 c314_a.vs, c314_a.mem, 0, 2, c314_T0 j⟩, ⟨(some [1, 1, 0, 1, 0]), [(0, fv 0), (1, fv 1), (12, sv 0), (13, sv 1)], [], 2, 2, c314_T1 j⟩], 0⟩
noncomputable def c314_c := mk [] (c314_f 0 c314_z0)

def c254_a : Pat := ⟨[ag (svs 0 4 ++ [fv 0])], [], 4, 1⟩
def c254_z0 : Pat := ⟨[iv 0], [], 1, 0⟩
def c254_T0 (j : Nat) : Tr Lf := .t (.bin .eql) [sv 0, iv 1] (.t .eqi [sv 0, iv 1] (.t (.bin .eql) [sv 0, iv 2] (.x) (.t (.bin .eql) [sv 0, iv 3] (.x) (.t (.bin .neq) [sv 1, iv 0] (.t (.bin .neq) [sv 2, iv 0] (.x) (.t (.bin .neq) [sv 3, iv 0] (.x) (.e .len [fv 0] (.t (.bin .neq) [sv 4, iv 0] (.x) (.t (.bin .geq) [sv 1, iv 16] (.t (.bin .leq) [sv 1, iv 4096] (rv j 0 ⟨[iv 0], [], [], [], true⟩) (.x)) (.x)))))) (.x)))) (.x)) (.x)
def c254_f (j : Nat) (z : Pat) : CFn := ⟨254, c254_a, z, [⟨none, numA 0 c254_a.vs, c254_a.mem, 4, 1, c254_T0 j⟩], 0⟩
noncomputable def c254_c := mk [] (c254_f 0 c254_z0)

def c165_a : Pat := ⟨[ag (svs 0 4 ++ [fv 0])], [], 4, 1⟩
def c165_z0 : Pat := ⟨[ag (svs 0 4 ++ [fv 0])], [], 4, 1⟩
def c165_T0 (j : Nat) : Tr Lf := .e (.cat 2) [nlS, fv 0] (rv j 0 ⟨(svs 0 4), [(fv 1, 2)], [], [], true⟩)
def c165_f (j : Nat) (z : Pat) : CFn := ⟨165, c165_a, z, [⟨none, numA 0 c165_a.vs, c165_a.mem, 4, 1, c165_T0 j⟩], 0⟩
noncomputable def c165_c := mkf [] (c165_f 0 c165_z0)

def c373_a : Pat := ⟨[.slice (some ⟨1, 0, none⟩) 2 2], [.cells (svs 0 4)], 4, 0⟩
def c373_z0 : Pat := ⟨[ff], [.cells (svs 0 4)], 5, 0⟩
def c373_T0 (j : Nat) : Tr Lf := .t .truth [sv 1] (.x) (.t .truth [sv 3] (.x) (rv j 0 ⟨(svs 0 4 ++ [ff]), [], [.same 1], [], true⟩))
def c373_f (j : Nat) (z : Pat) : CFn := ⟨373, c373_a, z, [⟨none, numA 0 c373_a.vs, c373_a.mem, 4, 0, c373_T0 j⟩], 0⟩
noncomputable def c373_c := mk [] (c373_f 0 c373_z0)

def c255_a : Pat := ⟨[ag (svs 0 4 ++ [fv 0]), sv 4], [], 5, 1⟩
def c255_z0 : Pat := ⟨[ag [sv 0, ff, sv 2, ff], iv 0], [], 5, 0⟩
def c255_T0 (j : Nat) : Tr Lf := .c 0 ⟨(svs 0 4), [(fv 0, 2)], [], [], true⟩ (.t (.bin .lss) [sv 4, iv 1] (.x) (.t (.bin .gtr) [sv 4, iv 1000] (.x) (.c 1 ⟨[sv 4], [], [], [], true⟩ (.d (.bin .shl) [sv 7, .int .u64 (.ofNat 32)] (.d (.bin .shr) [sv 7, .int .u64 (.ofNat 32)] (.d (.bin .or) [.int .u64 (.ofNat 0), sv 10] (.c 2 ⟨[sv 6, sv 9, sv 11, ff], [], [], [], true⟩ (.t (.bin .eql) [sv 0, iv 1] (.c 3 ⟨[iv 13493037704, ff], [], [], [], true⟩ (.d (.bin .mul) [sv 1, sv 1] (.c 4 ⟨[iv 65536, sv 16], [], [], [], true⟩ (.c 3 ⟨[sv 17, sv 18], [], [], [], true⟩ (.c 3 ⟨[sv 14, sv 15], [], [], [], true⟩ (.c 4 ⟨[sv 19, sv 21], [], [], [], true⟩ (.t .truth [sv 24] (.x) (.c 5 ⟨(svs 19 4), [], [.same 13], [], true⟩ (.d (.bin .mul) [sv 16, sv 1] (.d (.bin .mul) [sv 30, sv 1] (.c 4 ⟨[iv 8589934592, sv 31], [], [], [], true⟩ (.c 3 ⟨[sv 32, sv 33], [], [], [], true⟩ (.c 4 ⟨[sv 34, sv 21], [], [], [], true⟩ (.t .truth [sv 37] (.x) (.c 5 ⟨[sv 34, sv 35, sv 21, sv 22], [], [.same 19], [], true⟩ (.c 3 ⟨[sv 23, ff], [], [], [], true⟩ (.c 3 ⟨[sv 12, sv 13], [], [], [], true⟩ (.c 4 ⟨[sv 43, sv 45], [], [], [], true⟩ (.t .truth [sv 48] (.x) (.c 5 ⟨(svs 43 4), [], [.same 25], [], true⟩ (.c 3 ⟨[sv 36, ff], [], [], [], true⟩ (.c 4 ⟨[sv 54, sv 45], [], [], [], true⟩ (.t .truth [sv 57] (.x) (.c 5 ⟨[sv 54, sv 55, sv 45, sv 46], [], [.same 30], [], true⟩ (rv j 0 ⟨[sv 47, ff, sv 56, ff, iv 0], [], [], [], true⟩))))))))))))))))))))))))) (.x)))))))))
def c255_f (j : Nat) (z : Pat) : CFn := ⟨255, c255_a, z, [⟨none, numA 0 c255_a.vs, c255_a.mem, 5, 1, c255_T0 j⟩], 0⟩
noncomputable def c255_c := mk [c254_c, c149_c, c152_c, c148_c, c89_c, c373_c] (c255_f 0 c255_z0)

def c460_a : Pat := ⟨[.slice (some ⟨1, 0, none⟩) 1 1, .func (.func 439) ⟨[]⟩ ⟨[]⟩], [.cells (svs 0 4)], 4, 0⟩
def c460_z0 : Pat := ⟨[nv 0], [.cells (svs 0 4)], 5, 0⟩
def c460_T0 (j : Nat) : Tr Lf := .c 0 ⟨[sv 0, sv 1], [], [], [], true⟩ (.d (.un .neg) [sv 4] (.t .truth [sv 5] (.x) (.c 0 ⟨[sv 2, sv 3], [], [], [], true⟩ (.d (.un .neg) [sv 7] (.t .truth [sv 8] (.x) (rv j 0 ⟨(svs 0 4 ++ [nv 0]), [], [.same 1], [], true⟩))))))
def c460_f (j : Nat) (z : Pat) : CFn := ⟨460, c460_a, z, [⟨none, numA 0 c460_a.vs, c460_a.mem, 4, 0, c460_T0 j⟩], 0⟩
noncomputable def c460_c := mk [c148_c] (c460_f 0 c460_z0)

def c434_a : Pat := ⟨[sv 0, sv 1], [], 2, 0⟩
def c434_z0 : Pat := ⟨[sv 0, sv 1], [], 2, 0⟩
def c434_T0 (j : Nat) : Tr Lf := .d (.bin .and) [sv 0, .int .u64 (.ofNat 4294967295)] (.d (.bin .shr) [sv 0, .int .u64 (.ofNat 32)] (.d (.bin .and) [sv 1, .int .u64 (.ofNat 4294967295)] (.d (.bin .shr) [sv 1, .int .u64 (.ofNat 32)] (.d (.bin .mul) [sv 2, sv 4] (.d (.bin .mul) [sv 3, sv 4] (.d (.bin .shr) [sv 6, .int .u64 (.ofNat 32)] (.d (.bin .add) [sv 7, sv 8] (.d (.bin .and) [sv 9, .int .u64 (.ofNat 4294967295)] (.d (.bin .shr) [sv 9, .int .u64 (.ofNat 32)] (.d (.bin .mul) [sv 2, sv 5] (.d (.bin .add) [sv 10, sv 12] (.d (.bin .mul) [sv 3, sv 5] (.d (.bin .add) [sv 14, sv 11] (.d (.bin .shr) [sv 13, .int .u64 (.ofNat 32)] (.d (.bin .add) [sv 15, sv 16] (.d (.bin .mul) [sv 0, sv 1] (rv j 0 ⟨[sv 17, sv 18], [], [], [], true⟩)))))))))))))))))
def c434_f (j : Nat) (z : Pat) : CFn := ⟨434, c434_a, z, [⟨none, numA 0 c434_a.vs, c434_a.mem, 2, 0, c434_T0 j⟩], 0⟩
noncomputable def c434_c := mk [] (c434_f 0 c434_z0)

def c461_a : Pat := ⟨[sv 0, sv 1], [], 2, 0⟩
def c461_z0 : Pat := ⟨[sv 0], [], 1, 0⟩
def c461_T0 (j : Nat) : Tr Lf := .t (.bin .neq) [sv 0, sv 0] (.x) (.t (.bin .neq) [sv 1, sv 1] (.x) (.t (.bin .lss) [sv 0, sv 1] (rv j 0 ⟨[nv 0], [], [], [], true⟩) (.t (.bin .gtr) [sv 0, sv 1] (rv j 0 ⟨[iv 1], [], [], [], true⟩) (rv j 0 ⟨[iv 0], [], [], [], true⟩))))
def c461_f (j : Nat) (z : Pat) : CFn := ⟨461, c461_a, z, [⟨none, numA 0 c461_a.vs, c461_a.mem, 2, 0, c461_T0 j⟩], 0⟩
noncomputable def c461_c := mk [] (c461_f 0 c461_z0)

def c287_a : Pat := ⟨[.slice (some ⟨1, 0, none⟩) 2 2], [.cells [sv 0, sv 1]], 2, 0⟩
def c287_z0 : Pat := ⟨[sv 2], [.cells [sv 0, sv 1]], 3, 0⟩
def c287_T0 (j : Nat) : Tr Lf := .t (.bin .neq) [sv 0, iv 0] (.x) (.t (.bin .neq) [sv 1, iv 0] (rv j 0 ⟨[sv 0, sv 1, sv 1], [], [.same 1], [], true⟩) (rv j 0 ⟨[sv 0, sv 1, iv 0], [], [.same 1], [], true⟩))
def c287_f (j : Nat) (z : Pat) : CFn := ⟨287, c287_a, z, [⟨none, numA 0 c287_a.vs, c287_a.mem, 2, 0, c287_T0 j⟩], 0⟩
noncomputable def c287_c := mk [] (c287_f 0 c287_z0)

def c381_a : Pat := ⟨[ag (svs 0 3), ag (svs 3 3)], [], 6, 0⟩
def c381_z0 : Pat := ⟨[ag (svs 0 3)], [], 3, 0⟩
def c381_T0 (j : Nat) : Tr Lf := .t (.beq false) [sv 0, sv 3] (.d (.ad false) [sv 1, sv 4, .int .u64 (.ofNat 0)] (.d (.ad true) [sv 1, sv 4, .int .u64 (.ofNat 0)] (.d (.ad false) [sv 2, sv 5, sv 7] (.d (.ad true) [sv 2, sv 5, sv 7] (rv j 0 ⟨[sv 0, sv 6, sv 8], [], [], [], true⟩))))) (.c 0 ⟨[sv 2, sv 5], [], [], [], true⟩ (.c 0 ⟨[sv 1, sv 4], [], [], [], true⟩ (.c 1 ⟨[sv 6, sv 7], [], [.same 6], [], true⟩ (.t (.bin .lss) [sv 10, iv 0] (.d (.sb false) [sv 4, sv 1, .int .u64 (.ofNat 0)] (.d (.sb true) [sv 4, sv 1, .int .u64 (.ofNat 0)] (.d (.sb false) [sv 5, sv 2, sv 12] (.d (.sb true) [sv 5, sv 2, sv 12] (rv j 0 ⟨[sv 3, sv 11, sv 13], [], [], [], true⟩))))) (.d (.sb false) [sv 1, sv 4, .int .u64 (.ofNat 0)] (.d (.sb true) [sv 1, sv 4, .int .u64 (.ofNat 0)] (.d (.sb false) [sv 2, sv 5, sv 12] (.d (.sb true) [sv 2, sv 5, sv 12] (rv j 0 ⟨[sv 0, sv 11, sv 13], [], [], [], true⟩)))))))))
def c381_f (j : Nat) (z : Pat) : CFn := ⟨381, c381_a, z, [⟨none, numA 0 c381_a.vs, c381_a.mem, 6, 0, c381_T0 j⟩], 0⟩
noncomputable def c381_c := mk [c461_c, c287_c] (c381_f 0 c381_z0)

def c373_1_a : Pat := ⟨[.slice (some ⟨1, 0, none⟩) 4 4], [.cells (svs 0 8)], 8, 0⟩
def c373_1_z0 : Pat := ⟨[ff], [.cells (svs 0 8)], 9, 0⟩
def c373_1_T0 (j : Nat) : Tr Lf := .t .truth [sv 1] (.x) (.t .truth [sv 3] (.x) (.t .truth [sv 5] (.x) (.t .truth [sv 7] (.x) (rv j 0 ⟨(svs 0 8 ++ [ff]), [], [.same 1], [], true⟩))))
def c373_1_f (j : Nat) (z : Pat) : CFn := ⟨373, c373_1_a, z, [⟨none, numA 0 c373_1_a.vs, c373_1_a.mem, 8, 0, c373_1_T0 j⟩], 0⟩
noncomputable def c373_1_c := mk [] (c373_1_f 0 c373_1_z0)

def c341_a : Pat := ⟨[ag [sv 0, sv 1], ag [sv 2, sv 3], ag [sv 4, sv 5], ag [sv 6, sv 7]], [], 8, 0⟩
def c341_z0 : Pat := ⟨[ag [sv 0, sv 1]], [], 2, 0⟩
def c341_T0 (j : Nat) : Tr Lf := .c 0 ⟨[sv 0, sv 1], [], [], [], true⟩ (.c 0 ⟨[sv 2, sv 3], [], [], [], true⟩ (.c 0 ⟨[sv 4, sv 5], [], [], [], true⟩ (.c 0 ⟨[sv 6, sv 7], [], [], [], true⟩ (.c 1 ⟨[sv 8], [], [], [], true⟩ (.c 1 ⟨[sv 10], [], [], [], true⟩ (.c 2 ⟨[sv 17, sv 20], [], [], [], true⟩ (.t (.beq true) [sv 16, sv 19] (.x) (.c 1 ⟨[sv 12], [], [], [], true⟩ (.c 1 ⟨[sv 14], [], [], [], true⟩ (.c 2 ⟨[sv 25, sv 28], [], [], [], true⟩ (.t (.beq true) [sv 24, sv 27] (.x) (.c 3 ⟨[ff, sv 23, sv 22, ff, sv 31, sv 30], [], [], [], true⟩ (.d (.bin .shl) [sv 34, .int .u64 (.ofNat 32)] (.d (.bin .shr) [sv 33, .int .u64 (.ofNat 32)] (.d (.bin .or) [sv 35, sv 36] (.d (.bin .shr) [sv 34, .int .u64 (.ofNat 32)] (.c 4 ⟨(svs 8 8), [], [.same 14], [], true⟩ (.c 5 ⟨[sv 32, sv 37, sv 38, ff], [], [], [], true⟩ (rv j 0 ⟨[sv 48, sv 49], [], [], [], true⟩)))))))))))))))))))
def c341_f (j : Nat) (z : Pat) : CFn := ⟨341, c341_a, z, [⟨none, numA 0 c341_a.vs, c341_a.mem, 8, 0, c341_T0 j⟩], 0⟩
noncomputable def c341_c := mk [c148_c, c149_c, c434_c, c381_c, c373_1_c, c152_c] (c341_f 0 c341_z0)

def c324_a : Pat := ⟨[ag (svs 0 4)], [], 4, 0⟩
def c324_z0 : Pat := ⟨[iv 0], [], 1, 0⟩
def c324_T0 (j : Nat) : Tr Lf := .c 0 ⟨(svs 0 4), [], [.same 2], [], true⟩ (.c 1 ⟨([sv 0, sv 1] ++ svs 0 4 ++ [sv 2, sv 3]), [], [], [], true⟩ (.d (.bin .sub) [sv 9, iv 4294967296] (.t (.bin .gtr) [sv 11, iv 65536] (.x) (.t (.bin .lss) [sv 11, nv 65535] (.x) (rv j 0 ⟨[iv 0], [], [], [], true⟩)))))
def c324_f (j : Nat) (z : Pat) : CFn := ⟨324, c324_a, z, [⟨none, numA 0 c324_a.vs, c324_a.mem, 4, 0, c324_T0 j⟩], 0⟩
noncomputable def c324_c := mk [c460_c, c341_c] (c324_f 0 c324_z0)

def c325_a : Pat := ⟨[ag [sv 0, sv 1]], [], 2, 0⟩
def c325_z0 : Pat := ⟨[tt], [], 1, 0⟩
def c325_T0 (j : Nat) : Tr Lf := .c 0 ⟨[sv 0, sv 1], [], [], [], true⟩ (.d (.un .neg) [sv 2] (.d (.mm true) [sv 2, sv 4] (.d (.un .not) [sv 3] (.t .truth [sv 6] (.c 1 ⟨[iv 4096], [], [], [], true⟩ (.d (.bin .shl) [sv 8, .int .u64 (.ofNat 32)] (.d (.bin .shr) [sv 8, .int .u64 (.ofNat 32)] (.d (.bin .or) [.int .u64 (.ofNat 0), sv 11] (.c 2 ⟨[sv 7, sv 10, sv 12, ff], [], [], [], true⟩ (.c 0 ⟨[sv 5, sv 3], [], [], [], true⟩ (.c 0 ⟨[sv 13, sv 14], [], [], [], true⟩ (.c 3 ⟨[sv 15, sv 17], [], [], [], true⟩ (.t (.bin .leq) [sv 19, iv 0] (rv j 0 ⟨[tt], [], [], [], true⟩) (.x)))))))))) (.x)))))
def c325_f (j : Nat) (z : Pat) : CFn := ⟨325, c325_a, z, [⟨none, numA 0 c325_a.vs, c325_a.mem, 2, 0, c325_T0 j⟩], 0⟩
noncomputable def c325_c := mk [c148_c, c149_c, c152_c, c147_c] (c325_f 0 c325_z0)

def c308_a : Pat := ⟨[ag [sv 0, sv 1], ag [sv 2, sv 3]], [], 4, 0⟩
def c308_z0 : Pat := ⟨[ag [sv 0, sv 1]], [], 2, 0⟩
def c308_T0 (j : Nat) : Tr Lf := .c 0 ⟨[sv 0, sv 1], [], [], [], true⟩ (.c 0 ⟨[sv 2, sv 3], [], [], [], true⟩ (.c 1 ⟨[sv 4], [], [], [], true⟩ (.c 1 ⟨[sv 6], [], [], [], true⟩ (.c 2 ⟨[sv 9, sv 12], [], [], [], true⟩ (.t (.beq true) [sv 8, sv 11] (.d (.bin .shl) [sv 14, .int .u64 (.ofNat 32)] (.d (.bin .shr) [sv 15, .int .u64 (.ofNat 32)] (.d (.bin .or) [sv 16, sv 17] (.d (.bin .shr) [sv 14, .int .u64 (.ofNat 32)] (.c 3 ⟨(svs 4 4), [], [.same 9], [], true⟩ (.c 4 ⟨[tt, sv 18, sv 19, ff], [], [], [], true⟩ (rv j 0 ⟨[sv 25, sv 26], [], [], [], true⟩))))))) (.d (.bin .shl) [sv 14, .int .u64 (.ofNat 32)] (.d (.bin .shr) [sv 15, .int .u64 (.ofNat 32)] (.d (.bin .or) [sv 16, sv 17] (.d (.bin .shr) [sv 14, .int .u64 (.ofNat 32)] (.c 3 ⟨(svs 4 4), [], [.same 9], [], true⟩ (.c 4 ⟨[ff, sv 18, sv 19, ff], [], [], [], true⟩ (rv j 0 ⟨[sv 25, sv 26], [], [], [], true⟩))))))))))))
def c308_f (j : Nat) (z : Pat) : CFn := ⟨308, c308_a, z, [⟨none, numA 0 c308_a.vs, c308_a.mem, 4, 0, c308_T0 j⟩], 0⟩
noncomputable def c308_c := mk [c148_c, c149_c, c434_c, c373_c, c152_c] (c308_f 0 c308_z0)

def c380_a : Pat := ⟨[ag [sv 0, sv 1]], [], 2, 0⟩
def c380_z0 : Pat := ⟨[sv 0], [], 1, 0⟩
def c380_T0 (j : Nat) : Tr Lf := .c 0 ⟨[sv 0, sv 1], [], [], [], true⟩ (.d (.bin .shr) [sv 2, .int .u64 (.ofNat 32)] (.d (.conv .u32) [sv 2] (.t (.bin .geq) [sv 5, .int .u32 (.ofNat 2147483648)] (.d (.bin .add) [sv 4, iv 1] (rv j 0 ⟨[sv 6], [], [], [], true⟩)) (rv j 0 ⟨[sv 4], [], [], [], true⟩))))
def c380_f (j : Nat) (z : Pat) : CFn := ⟨380, c380_a, z, [⟨none, numA 0 c380_a.vs, c380_a.mem, 2, 0, c380_T0 j⟩], 0⟩
noncomputable def c380_c := mk [c148_c] (c380_f 0 c380_z0)

def c321_a : Pat := ⟨[ag (svs 0 4 ++ [fv 0])], [], 4, 1⟩
def c321_z0 : Pat := ⟨[.chan (some 1)], [.lst false 2 0], 0, 1⟩
def c321_T0 (j : Nat) : Tr Lf := .c 0 ⟨(svs 0 4), [(fv 0, 2)], [], [], true⟩ (.t (.bin .eql) [sv 0, iv 2] (.x) (.e (.cat 2) [nlS, fv 0] (rv j 0 ⟨[], [(fv 1, 2)], [.same 2], [], true⟩)))
def c321_f (j : Nat) (z : Pat) : CFn := ⟨321, c321_a, z, [⟨none, numA 0 c321_a.vs, c321_a.mem, 4, 1, c321_T0 j⟩], 0⟩
noncomputable def c321_c := mkf [c254_c] (c321_f 0 c321_z0)

def c256_a : Pat := ⟨[ag (svs 0 4 ++ [fv 0]), ag (svs 4 8)], [], 12, 1⟩
def c256_z0 : Pat := ⟨[ag ([iv 1] ++ svs 1 3 ++ [fv 0]), iv 0], [], 5, 1⟩
def c256_T0 (j : Nat) : Tr Lf := .c 0 ⟨(svs 0 4), [(fv 0, 2)], [], [], true⟩ (.c 1 ⟨(svs 8 4), [], [], [], true⟩ (.c 2 ⟨[sv 4, sv 5], [], [], [], true⟩ (.c 2 ⟨[sv 6, sv 7], [], [], [], true⟩ (.c 3 ⟨[iv 256], [], [], [], true⟩ (.d (.bin .shl) [sv 17, .int .u64 (.ofNat 32)] (.d (.bin .shr) [sv 17, .int .u64 (.ofNat 32)] (.d (.bin .or) [.int .u64 (.ofNat 0), sv 20] (.c 4 ⟨[sv 16, sv 19, sv 21, ff], [], [], [], true⟩ (.c 5 ⟨[sv 4, sv 5, sv 22, sv 23], [], [], [], true⟩ (.c 6 ⟨[sv 24, sv 25], [], [], [], true⟩ (.c 5 ⟨[sv 6, sv 7, sv 22, sv 23], [], [], [], true⟩ (.c 6 ⟨[sv 27, sv 28], [], [], [], true⟩ (.t (.bin .neq) [sv 0, iv 1] (.x) (.c 7 ⟨(svs 0 4), [(fv 0, 2)], [], [], true⟩ (rv j 0 ⟨[iv 1, sv 26, sv 29, sv 1, iv 0], [(nlS, 2)], [], [], true⟩)))))))))))))))
def c256_f (j : Nat) (z : Pat) : CFn := ⟨256, c256_a, z, [⟨none, numA 0 c256_a.vs, c256_a.mem, 12, 1, c256_T0 j⟩], 0⟩
noncomputable def c256_c := mkf [c254_c, c324_c, c325_c, c149_c, c152_c, c308_c, c380_c, c321_c] (c256_f 0 c256_z0)

def c193_a : Pat := ⟨[ag (svs 0 4 ++ [fv 0]), ag (svs 4 8), sv 12, sv 13], [], 14, 1⟩
def c193_z0 : Pat := ⟨[ag (svs 0 4 ++ [fv 0] ++ svs 4 8 ++ [iv 0, ff, iv 0, ff, iv 0, ff, sv 18, ff, sv 20, ff, iv 0, ff, ff, iv 1]), iv 0], [], 27, 1⟩
def c193_T0 (j : Nat) : Tr Lf := .c 0 ⟨(svs 0 4), [(fv 0, 2)], [], [], true⟩ (.c 1 ⟨(svs 0 4), [(fv 0, 2)], [], [], false⟩ (.t .truth [sv 13] (.c 2 ⟨(svs 0 4 ++ [sv 12]), [(fv 0, 2)], [], [], true⟩ (.c 3 ⟨(svs 0 12), [(fv 0, 2)], [], [], false⟩ (rv j 0 ⟨(svs 15 4 ++ svs 4 8 ++ [iv 0, ff, iv 0, ff, iv 0, ff, sv 19, ff, sv 21, ff, iv 0, ff, ff, iv 1, iv 0]), [(fv 1, 2)], [], [], true⟩))) (.x)))
def c193_f (j : Nat) (z : Pat) : CFn := ⟨193, c193_a, z, [⟨none, numA 0 c193_a.vs, c193_a.mem, 14, 1, c193_T0 j⟩], 0⟩
noncomputable def c193_c := mkf [c254_c, c165_c, c255_c, c256_c] (c193_f 0 c193_z0)

def c310_1_a : Pat := ⟨[.slice (some ⟨1, 0, none⟩) 1 1], [.cells [sv 0, sv 1]], 2, 0⟩
def c310_1_z0 : Pat := ⟨[.slice (some ⟨2, 0, none⟩) 1 1, sv 3], [.cells [sv 0, sv 1], .cells [sv 2]], 4, 0⟩
def c310_1_T0 (j : Nat) : Tr Lf := .c 0 ⟨[sv 0, sv 1], [], [], [], true⟩ (rv j 0 ⟨(svs 0 4), [], [.same 1, .same 2], [], true⟩)
def c310_1_f (j : Nat) (z : Pat) : CFn := ⟨310, c310_1_a, z, [⟨none, numA 0 c310_1_a.vs, c310_1_a.mem, 2, 0, c310_1_T0 j⟩], 0⟩
noncomputable def c310_1_c := mk [c148_c] (c310_1_f 0 c310_1_z0)

def c328_a : Pat := ⟨[.slice (some ⟨1, 0, none⟩) 1 1], [.cells [sv 0, sv 1]], 2, 0⟩
def c328_z0 : Pat := ⟨[ag [sv 2, sv 3]], [.cells [sv 0, sv 1]], 4, 0⟩
def c328_T0 (j : Nat) : Tr Lf := .c 0 ⟨[sv 0, sv 1], [], [.same 1], [], true⟩ (.c 1 ⟨[sv 4], [], [], [], true⟩ (.c 2 ⟨[ff, .int .u64 (.ofNat 0), .int .u64 (.ofNat 0), sv 6, sv 7, .int .u64 (.ofNat 0)], [], [], [], true⟩ (.c 3 ⟨(svs 9 3 ++ [sv 5]), [], [], [], true⟩ (rv j 0 ⟨[sv 2, sv 3, sv 12, sv 13], [], [.same 1], [], true⟩))))
def c328_f (j : Nat) (z : Pat) : CFn := ⟨328, c328_a, z, [⟨none, numA 0 c328_a.vs, c328_a.mem, 2, 0, c328_T0 j⟩], 0⟩
noncomputable def c328_c := mk [c310_1_c, c149_c, c381_c, c152_c] (c328_f 0 c328_z0)

def c307_a : Pat := ⟨[sv 0, .slice (some ⟨1, 0, none⟩) 2 2], [.cells (svs 1 4)], 5, 0⟩
def c307_z0 : Pat := ⟨[tt], [.cells (svs 0 4)], 5, 0⟩
def c307_T0 (j : Nat) : Tr Lf := .c 0 ⟨[sv 1, sv 2], [], [.same 3], [], true⟩ (.t .truth [sv 8] (.x) (.d (.un .neg) [sv 7] (.d (.mm true) [sv 7, sv 9] (.d (.bin .shl) [sv 0, .int .u64 (.ofNat 32)] (.t (.bin .gtr) [sv 10, sv 11] (.x) (.c 0 ⟨[sv 3, sv 4], [], [.same 5], [], true⟩ (.t .truth [sv 15] (.x) (.d (.un .neg) [sv 14] (.d (.mm true) [sv 14, sv 16] (.t (.bin .gtr) [sv 17, sv 11] (.x) (rv j 0 ⟨(svs 1 4 ++ [tt]), [], [.same 1], [], true⟩)))))))))))
def c307_f (j : Nat) (z : Pat) : CFn := ⟨307, c307_a, z, [⟨none, numA 0 c307_a.vs, c307_a.mem, 5, 0, c307_T0 j⟩], 0⟩
noncomputable def c307_c := mk [c328_c] (c307_f 0 c307_z0)

def c307_1_a : Pat := ⟨[sv 0, .slice (some ⟨1, 0, none⟩) 1 1], [.cells [sv 1, sv 2]], 3, 0⟩
def c307_1_z0 : Pat := ⟨[tt], [.cells [sv 0, sv 1]], 3, 0⟩
def c307_1_T0 (j : Nat) : Tr Lf := .c 0 ⟨[sv 1, sv 2], [], [.same 3], [], true⟩ (.t .truth [sv 6] (.x) (.d (.un .neg) [sv 5] (.d (.mm true) [sv 5, sv 7] (.d (.bin .shl) [sv 0, .int .u64 (.ofNat 32)] (.t (.bin .gtr) [sv 8, sv 9] (.x) (rv j 0 ⟨[sv 1, sv 2, tt], [], [.same 1], [], true⟩))))))
def c307_1_f (j : Nat) (z : Pat) : CFn := ⟨307, c307_1_a, z, [⟨none, numA 0 c307_1_a.vs, c307_1_a.mem, 3, 0, c307_1_T0 j⟩], 0⟩
noncomputable def c307_1_c := mk [c328_c] (c307_1_f 0 c307_1_z0)

def c328_1_a : Pat := ⟨[.slice (some ⟨1, 0, none⟩) 2 2], [.cells (svs 0 4)], 4, 0⟩
def c328_1_z0 : Pat := ⟨[ag [sv 4, sv 5]], [.cells (svs 0 4)], 6, 0⟩
def c328_1_T0 (j : Nat) : Tr Lf := .c 0 ⟨(svs 0 4), [], [.same 1], [], true⟩ (.c 1 ⟨[sv 8], [], [], [], true⟩ (.c 2 ⟨[ff, .int .u64 (.ofNat 0), .int .u64 (.ofNat 0), sv 11, sv 12, .int .u64 (.ofNat 0)], [], [], [], true⟩ (.c 1 ⟨[sv 9], [], [], [], true⟩ (.c 2 ⟨(svs 14 5 ++ [.int .u64 (.ofNat 0)]), [], [], [], true⟩ (.c 3 ⟨(svs 20 3 ++ [sv 10]), [], [], [], true⟩ (rv j 0 ⟨(svs 4 4 ++ [sv 23, sv 24]), [], [.same 1], [], true⟩))))))
def c328_1_f (j : Nat) (z : Pat) : CFn := ⟨328, c328_1_a, z, [⟨none, numA 0 c328_1_a.vs, c328_1_a.mem, 4, 0, c328_1_T0 j⟩], 0⟩
noncomputable def c328_1_c := mk [c310_c, c149_c, c381_c, c152_c] (c328_1_f 0 c328_1_z0)

def c257_a : Pat := ⟨[ag (svs 0 4 ++ [fv 0] ++ svs 4 22)], [], 26, 1⟩
def c257_z0 : Pat := ⟨[iv 0], [], 1, 0⟩
def c257_T0 (j : Nat) : Tr Lf := .c 0 ⟨(svs 0 4), [(fv 0, 2)], [], [], true⟩ (.c 1 ⟨(svs 8 4), [], [], [], true⟩ (.c 2 ⟨([iv 4096] ++ svs 4 4), [], [.same 3], [], true⟩ (.c 2 ⟨([iv 256] ++ svs 12 4), [], [.same 4], [], true⟩ (.c 3 ⟨[iv 64, sv 16, sv 17], [], [.same 5], [], true⟩ (.c 4 ⟨(svs 18 4), [], [.same 6], [], true⟩ (.d (.un .not) [sv 46] (.t .truth [sv 47] (.t (.bin .geq) [sv 18, iv 0] (.t (.bin .geq) [sv 20, iv 0] (.t (.bin .lss) [sv 22, iv 0] (.x) (.t (.bin .gtr) [sv 22, iv 30] (.x) (.t (.bin .lss) [sv 25, iv 1] (.x) (.t (.bin .gtr) [sv 25, iv 1099511627776] (.x) (.t .eqi [sv 12, iv 0] (.t (.beq false) [sv 13, ff] (.t .eqi [sv 14, iv 0] (.t (.beq false) [sv 15, ff] (.t .eqi [sv 16, iv 0] (.t (.beq false) [sv 17, ff] (.t (.bin .gtr) [sv 18, iv 0] (.t (.bin .gtr) [sv 20, iv 0] (.t (.bin .neq) [sv 18, iv 0] (.t .truth [sv 23] (.x) (.t .truth [sv 24] (.x) (rv j 0 ⟨[iv 0], [], [], [], true⟩))) (.x)) (.x)) (.x)) (.x)) (.x)) (.x)) (.x)) (.x)) (.x)))))) (.x)) (.x)) (.x))))))))
def c257_f (j : Nat) (z : Pat) : CFn := ⟨257, c257_a, z, [⟨none, numA 0 c257_a.vs, c257_a.mem, 26, 1, c257_T0 j⟩], 0⟩
noncomputable def c257_c := mk [c254_c, c324_c, c307_c, c307_1_c, c328_1_c] (c257_f 0 c257_z0)

def c258_a : Pat := ⟨[pp 1], [.cells [sv 0, .chan (some 2)], .lst false 1 0], 1, 1⟩
def c258_z0 : Pat := ⟨[ag [sv 1, sv 2], iv 0], [.cells [sv 0, .chan (some 2)], .lst false 1 0], 4, 1⟩
def c258_T0 (j : Nat) : Tr Lf := .e .len [fv 0] (.t (.bin .eql) [sv 1, iv 0] (.x) (.lf (.go 1 ⟨[sv 0, iv 0, iv 0, sv 1, iv 0], [(fv 0, 1)], (sm 1 3), [], true⟩)))
def c258_T1 (j : Nat) : Tr Lf := .t (.bin .lss) [sv 4, sv 3] (.e (.iad 1) [fv 0, sv 4] (.l 1 [true] (.d (.conv .u64) [sv 4] (.d (.bin .shr) [sv 0, sv 6] (.d (.bin .and) [sv 7, .int .u64 (.ofNat 1)] (.t (.bin .eql) [sv 8, .int .u64 (.ofNat 1)] (.x) (.t (.bin .lss) [sv 5, iv 2147483647] (.d (.bin .shl) [.int .u64 (.ofNat 1), sv 6] (.d (.bin .or) [sv 0, sv 9] (.d (.bin .add) [sv 5, iv 1] (.e (.set 1 0) [fv 0, sv 4, sv 11] (rv j 0 ⟨[sv 10, sv 4, sv 11, iv 0], [(fv 2, 1)], [.same 1, .same 2], [], true⟩))))) (.x)))))))) (.x)
def c258_f (j : Nat) (z : Pat) : CFn := ⟨258, c258_a, z, [⟨none, numA 0 c258_a.vs, c258_a.mem, 1, 1, c258_T0 j⟩, ⟨(some [1, 1, 0, 1, 0]), [(0, pp 1), (2, pp 3), (12, .chan (some 2)), (13, sv 3), (14, sv 4)], [.cells [sv 0, .chan (some 2)], .lst false 1 0, .cells [sv 1, sv 2]], 5, 1, c258_T1 j⟩], 0⟩
noncomputable def c258_c := mkf [] (c258_f 0 c258_z0)

def c99_a : Pat := ⟨[ag (svs 0 4 ++ [fv 0] ++ svs 4 22)], [], 26, 1⟩
def c99_z0 : Pat := ⟨[ag (svs 0 4 ++ [fv 0] ++ svs 4 22)], [], 26, 1⟩
def c99_T0 (j : Nat) : Tr Lf := .c 0 ⟨(svs 0 4), [(fv 0, 2)], [], [], false⟩ (rv j 0 ⟨(svs 26 4 ++ svs 4 22), [(fv 1, 2)], [], [], true⟩)
def c99_f (j : Nat) (z : Pat) : CFn := ⟨99, c99_a, z, [⟨none, numA 0 c99_a.vs, c99_a.mem, 26, 1, c99_T0 j⟩], 0⟩
noncomputable def c99_c := mkf [c165_c] (c99_f 0 c99_z0)

def c278_a : Pat := ⟨[ag (svs 0 4 ++ [fv 0] ++ svs 4 22)], [], 26, 1⟩
def c278_z0 : Pat := ⟨[ag ([iv 1] ++ svs 1 3 ++ [fv 0]), iv 0], [], 5, 1⟩
def c278_T0 (j : Nat) : Tr Lf := .c 0 ⟨(svs 0 12), [(fv 0, 2)], [], [], false⟩ (rv j 0 ⟨([iv 1] ++ svs 27 3 ++ [iv 0]), [(fv 1, 2)], [], [], true⟩)
def c278_f (j : Nat) (z : Pat) : CFn := ⟨278, c278_a, z, [⟨none, numA 0 c278_a.vs, c278_a.mem, 26, 1, c278_T0 j⟩], 0⟩
noncomputable def c278_c := mkf [c256_c] (c278_f 0 c278_z0)

def c275_a : Pat := ⟨[.slice (some ⟨1, 0, none⟩) 1 1], [.cells [sv 0, sv 1]], 2, 0⟩
def c275_z0 : Pat := ⟨[tt], [.cells [sv 0, sv 1]], 3, 0⟩
def c275_T0 (j : Nat) : Tr Lf := .d (.un .neg) [sv 0] (.d (.un .neg) [sv 1] (.d (.mm true) [sv 0, sv 2] (.d (.mm true) [sv 4, sv 1] (.d (.mm true) [sv 5, sv 3] (.t (.bin .gtr) [sv 6, iv 2097152] (.x) (.t (.bin .lss) [sv 0, nv 2097151] (.x) (.t (.bin .lss) [sv 1, nv 2097151] (.x) (rv j 0 ⟨[sv 0, sv 1, tt], [], [.same 1], [], true⟩))))))))
def c275_f (j : Nat) (z : Pat) : CFn := ⟨275, c275_a, z, [⟨none, numA 0 c275_a.vs, c275_a.mem, 2, 0, c275_T0 j⟩], 0⟩
noncomputable def c275_c := mk [] (c275_f 0 c275_z0)

def c275_1_a : Pat := ⟨[fv 0], [], 0, 1⟩
def c275_1_z0 : Pat := ⟨[tt], [], 1, 0⟩
def c275_1_T0 (j : Nat) : Tr Lf := .e .len [fv 0] (.lf (.go 1 ⟨[sv 0, iv 0], [(fv 0, 2)], [], [], true⟩))
def c275_1_T1 (j : Nat) : Tr Lf := .t (.bin .lss) [sv 1, sv 0] (.e (.iad 2) [fv 0, sv 1] (.l 1 [true, true] (.d (.un .neg) [sv 2] (.d (.un .neg) [sv 3] (.d (.mm true) [sv 2, sv 4] (.d (.mm true) [sv 6, sv 3] (.d (.mm true) [sv 7, sv 5] (.t (.bin .gtr) [sv 8, iv 2097152] (.x) (.t (.bin .lss) [sv 2, nv 2097151] (.x) (.t (.bin .lss) [sv 3, nv 2097151] (.x) (.d (.bin .add) [sv 1, iv 1] (.lf (.go 1 ⟨[sv 0, sv 9], [(fv 0, 2)], [], [], true⟩))))))))))))) (rv j 0 ⟨[tt], [], [], [], true⟩)
def c275_1_f (j : Nat) (z : Pat) : CFn := ⟨275, c275_1_a, z, [⟨none, numA 0 c275_1_a.vs, c275_1_a.mem, 0, 1, c275_1_T0 j⟩, ⟨(some [1, 0, 1, 0]), [(5, fv 0), (6, sv 0), (7, sv 1)], [], 2, 1, c275_1_T1 j⟩], 0⟩
noncomputable def c275_1_c := mk [] (c275_1_f 0 c275_1_z0)

def c207_a : Pat := ⟨[ag (svs 0 4)], [], 4, 0⟩
def c207_z0 : Pat := ⟨[iv 0], [], 1, 0⟩
def c207_T0 (j : Nat) : Tr Lf := .e (.lit 2) (svs 0 4) (.c 0 ⟨[], [(fv 0, 2)], [], [], true⟩ (.t (.bin .gtr) [sv 0, sv 2] (.x) (.t (.bin .gtr) [sv 1, sv 3] (.x) (rv j 0 ⟨[iv 0], [], [], [], true⟩))))
def c207_f (j : Nat) (z : Pat) : CFn := ⟨207, c207_a, z, [⟨none, numA 0 c207_a.vs, c207_a.mem, 4, 0, c207_T0 j⟩], 0⟩
noncomputable def c207_c := mk [c275_1_c] (c207_f 0 c207_z0)

def c446_a : Pat := ⟨[ag (svs 0 4 ++ [fv 0])], [], 4, 1⟩
def c446_z0 : Pat := ⟨[iv 0], [], 1, 0⟩
def c446_T0 (j : Nat) : Tr Lf := .t (.bin .eql) [sv 0, iv 1] (.c 0 ⟨[sv 1, sv 2], [], [.same 2], [], true⟩ (.c 1 ⟨[], [(fv 0, 2)], [], [], true⟩ (.t (.bin .gtr) [sv 3, iv 0] (.t (.bin .gtr) [sv 3, iv 2097152] (.x) (.d (.bin .sub) [sv 1, sv 3] (.d (.bin .sub) [sv 2, sv 3] (.d (.bin .add) [sv 1, sv 3] (.d (.bin .add) [sv 2, sv 3] (.c 2 ⟨(svs 8 4), [], [], [], true⟩ (.t .eqi [sv 3, iv 256] (.t (.bin .lss) [sv 3, iv 1] (.x) (.e .len [fv 0] (.t (.bin .gtr) [sv 13, iv 0] (.x) (rv j 0 ⟨[iv 0], [], [], [], true⟩)))) (.x)))))))) (.x)))) (.x)
def c446_f (j : Nat) (z : Pat) : CFn := ⟨446, c446_a, z, [⟨none, numA 0 c446_a.vs, c446_a.mem, 4, 1, c446_T0 j⟩], 0⟩
noncomputable def c446_c := mk [c275_c, c275_1_c, c207_c] (c446_f 0 c446_z0)

def c390_a : Pat := ⟨[ag (svs 0 4 ++ [fv 0])], [], 4, 1⟩
def c390_z0 : Pat := ⟨[.iface 469 (ag (svs 0 3))], [], 3, 0⟩
def c390_T0 (j : Nat) : Tr Lf := .c 0 ⟨(svs 0 4), [(fv 0, 2)], [], [], true⟩ (.t (.bin .eql) [sv 0, iv 1] (rv j 0 ⟨(svs 1 3), [], [], [], true⟩) (.x))
def c390_f (j : Nat) (z : Pat) : CFn := ⟨390, c390_a, z, [⟨none, numA 0 c390_a.vs, c390_a.mem, 4, 1, c390_T0 j⟩], 0⟩
noncomputable def c390_c := mk [c446_c] (c390_f 0 c390_z0)

def c370_a : Pat := ⟨[ag (svs 0 4 ++ [fv 0])], [], 4, 1⟩
def c370_z0 : Pat := ⟨[ag (svs 0 4)], [], 4, 0⟩
def c370_T0 (j : Nat) : Tr Lf := .c 0 ⟨(svs 0 4), [(fv 0, 2)], [], [], true⟩ (.d (.bin .sub) [sv 4, sv 6] (.d (.bin .sub) [sv 5, sv 6] (.d (.bin .add) [sv 4, sv 6] (.d (.bin .add) [sv 5, sv 6] (rv j 0 ⟨(svs 7 4), [], [], [], true⟩)))))
def c370_f (j : Nat) (z : Pat) : CFn := ⟨370, c370_a, z, [⟨none, numA 0 c370_a.vs, c370_a.mem, 4, 1, c370_T0 j⟩], 0⟩
noncomputable def c370_c := mk [c390_c] (c370_f 0 c370_z0)

def c303_a : Pat := ⟨[ag (svs 0 4 ++ [fv 0] ++ svs 4 22)], [], 26, 1⟩
def c303_z0 : Pat := ⟨[ag (svs 0 4)], [], 4, 0⟩
def c303_T0 (j : Nat) : Tr Lf := .c 0 ⟨(svs 0 26), [(fv 0, 2)], [], [], false⟩ (.c 1 ⟨([iv 1] ++ svs 27 3), [(fv 1, 2)], [], [], true⟩ (rv j 0 ⟨(svs 31 4), [], [], [], true⟩))
def c303_f (j : Nat) (z : Pat) : CFn := ⟨303, c303_a, z, [⟨none, numA 0 c303_a.vs, c303_a.mem, 26, 1, c303_T0 j⟩], 0⟩
noncomputable def c303_c := mk [c278_c, c370_c] (c303_f 0 c303_z0)

def c331_a : Pat := ⟨[pp 1, sv 0], [.cells [.map (some 2)], .mp 4 0], 1, 1⟩
def c331_z0 : Pat := ⟨[iv 0], [.cells [.map (some 2)], .mp 4 0], 1, 1⟩
def c331_T0 (j : Nat) : Tr Lf := .t (.bin .lss) [sv 0, iv 0] (.x) (.t (.bin .gtr) [sv 0, iv 2147483647] (.x) (rv j 0 ⟨[iv 0], [(fv 0, 5)], [.same 1, .same 2], [], true⟩))
def c331_f (j : Nat) (z : Pat) : CFn := ⟨331, c331_a, z, [⟨none, numA 0 c331_a.vs, c331_a.mem, 1, 1, c331_T0 j⟩], 0⟩
noncomputable def c331_c := mkf [] (c331_f 0 c331_z0)

def c304_a : Pat := ⟨[pp 1, sv 0, ag (svs 1 4)], [.cells [.map (some 2)], .mp 4 0], 5, 1⟩
def c304_z0 : Pat := ⟨[sv 0], [.cells [.map (some 2)], .mp 4 0], 1, 1⟩
def c304_T0 (j : Nat) : Tr Lf := .c 0 ⟨[sv 0], [(fv 0, 5)], [.same 1, .same 2], [], true⟩ (.c 1 ⟨(svs 1 4), [], [], [], true⟩ (.u .mhas [fv 1, sv 0] (.e (.mrow 4) [fv 1, sv 0] (.l 2 [true, true, true, true] (.e (.mset 4) ([fv 1] ++ svs 0 5) (rv j 0 ⟨[iv 0], [(fv 3, 5)], [.same 1, .same 2], [], true⟩)))) (rv j 0 ⟨[iv 9], [(fv 1, 5)], [.same 1, .same 2], [], true⟩)))
def c304_f (j : Nat) (z : Pat) : CFn := ⟨304, c304_a, z, [⟨none, numA 0 c304_a.vs, c304_a.mem, 5, 1, c304_T0 j⟩], 0⟩
noncomputable def c304_c := mkf [c331_c, c207_c] (c304_f 0 c304_z0)

def c305_a : Pat := ⟨[pp 1, sv 0, ag (svs 1 4)], [.cells [.map (some 2)], .mp 4 0], 5, 1⟩
def c305_z0 : Pat := ⟨[iv 0], [.cells [.map (some 2)], .mp 4 0], 1, 1⟩
def c305_T0 (j : Nat) : Tr Lf := .c 0 ⟨[sv 0], [(fv 0, 5)], [.same 1, .same 2], [], true⟩ (.c 1 ⟨(svs 1 4), [], [], [], true⟩ (.u .mhas [fv 1, sv 0] (.x) (.e .len [fv 1] (.t (.bin .geq) [sv 7, iv 256] (.x) (.e (.mset 4) ([fv 1] ++ svs 0 5) (rv j 0 ⟨[iv 0], [(fv 2, 5)], [.same 1, .same 2], [], true⟩))))))
def c305_f (j : Nat) (z : Pat) : CFn := ⟨305, c305_a, z, [⟨none, numA 0 c305_a.vs, c305_a.mem, 5, 1, c305_T0 j⟩], 0⟩
noncomputable def c305_c := mkf [c331_c, c207_c] (c305_f 0 c305_z0)

def c195_a : Pat := ⟨[pp 1, ag (svs 11 4 ++ [fv 3] ++ svs 15 22)], [.cells [pp 2], k44, .cells [sv 0, .chan (some 4)], .lst false 1 0, .cells [.map (some 6)], .mp 4 1, .lst false 27 2], 37, 4⟩
def c195_z0 : Pat := ⟨[ag [sv 11, sv 12], iv 0], [.cells [pp 2], k44, .cells [sv 0, .chan (some 4)], .lst false 1 0, .cells [.map (some 6)], .mp 4 1, .lst false 27 2], 14, 3⟩
def c195_T0 (j : Nat) : Tr Lf := .c 0 ⟨(svs 11 26), [(fv 3, 2)], [], [], true⟩ (.t (.bin .neq) [sv 33, iv 0] (.x) (.t (.bin .neq) [sv 36, iv 1] (.x) (.t .truth [sv 34] (.x) (.t .truth [sv 35] (.x) (.c 1 ⟨[sv 0], [(fv 0, 1)], [.same 3, .same 4], [], true⟩ (.c 2 ⟨(svs 11 26), [(fv 3, 2)], [], [], false⟩ (.e (.iad 27) [fv 2, sv 39] (.e (.set 27 0) ([fv 2, sv 39] ++ svs 42 4 ++ [fv 5] ++ svs 46 22) (.c 3 ⟨(svs 42 26), [(fv 5, 2)], [], [], true⟩ (.c 4 ⟨([sv 39] ++ svs 68 4), [(fv 1, 5)], [.same 5, .same 6], [], true⟩ (.t (.bin .eql) [sv 72, iv 9] (.c 5 ⟨([sv 39] ++ svs 68 4), [(fv 8, 5)], [.same 5, .same 6], [], true⟩ (rv j 0 ⟨([sv 38] ++ svs 1 10 ++ [sv 39, sv 40, iv 0]), [(fv 4, 1), (fv 9, 5), (fv 7, 27)], (sm 1 7), [], true⟩)) (.x))))))))))))
def c195_f (j : Nat) (z : Pat) : CFn := ⟨195, c195_a, z, [⟨none, numA 0 c195_a.vs, c195_a.mem, 37, 4, c195_T0 j⟩], 0⟩
noncomputable def c195_c := mkf [c257_c, c258_c, c99_c, c303_c, c304_c, c305_c] (c195_f 0 c195_z0)

def c58_6_a : Pat := ⟨[pp 1, iv 1, ag ([iv 1] ++ rp 4 (iv 0) ++ [iv 1, iv 256, iv 0, iv 0, fv 3, iv 0, ff, iv 0, ff, iv 4294967296, ff, iv 0, ff, iv 0, ff, iv 0, ff, iv 0, ff, iv 1, tt, iv 0, ff, iv 0, ff, iv 0, ff, iv 0, ff] ++ rp 9 (iv 0))], [.cells [pp 2], k67, .cells [pp 4], k47, k69, .lst false 1 0, .cells [.map (some 8)], .mp 4 1, .lst false 27 2], 8, 4⟩
def c58_6_z0 : Pat := ⟨[ag ([iv 1, iv 0, iv 0, sv 11, sv 12, iv 1] ++ rp 5 (iv 0) ++ [fv 3, iv 0, ff, iv 0, ff, iv 0, ff, iv 0, ff, iv 0, ff, iv 0, ff, iv 0, ff, iv 0, ff, iv 0, ff, iv 0, ff, ff, iv 0, fv 4, ff, iv 0, ff, iv 0, ff, iv 0, ff, iv 0]), iv 0], [.cells [pp 2], k67, .cells [pp 4], k45, .cells [sv 0, .chan (some 6)], .lst false 1 0, .cells [.map (some 8)], .mp 4 1, .lst false 27 2], 13, 5⟩
def c58_6_T0 (j : Nat) : Tr Lf := .c 0 ⟨[], [(fv 3, 2), (fv 3, 2)], [], [], true⟩ (.e .len [fv 3] (.t (.bin .geq) [sv 9, iv 0] (.t (.bin .leq) [sv 9, iv 8] (.d (.conv .u8) [sv 9] (.t (.bin .lss) [iv 0, sv 9] (.x) (.d .bytes ([.int .u8 (.ofNat 1)] ++ rp 4 (.int .u8 (.ofNat 0)) ++ [.int .u8 (.ofNat 1)] ++ rp 6 (.int .u8 (.ofNat 0)) ++ [.int .u8 (.ofNat 1)] ++ rp 17 (.int .u8 (.ofNat 0)) ++ [sv 10] ++ rp 21 (.int .u8 (.ofNat 0)) ++ [.int .u8 (.ofNat 1)] ++ rp 48 (.int .u8 (.ofNat 0)) ++ [.int .u8 (.ofNat 1), .int .u8 (.ofNat 1)]) (.c 1 ⟨[iv 1, iv 256, iv 0, iv 0, iv 0, ff, iv 0, ff, iv 4294967296, ff, iv 0, ff, iv 1, tt], [(fv 3, 2)], [], [], false⟩ (.c 2 ⟨([.int .u64 (.ofNat 0)] ++ svs 0 8 ++ [iv 0, iv 0] ++ svs 12 12 ++ [iv 0, ff, iv 0, ff, iv 0, ff, sv 30, ff, sv 32, ff, iv 0, ff, ff, iv 1]), [(fv 0, 1), (fv 1, 5), (fv 2, 27), (fv 4, 2)], (sm 3 7), [], true⟩ (rv j 0 ⟨(svs 39 13), [(fv 5, 1), (fv 6, 5), (fv 7, 27), (nlS, 2), (nlS, 2)], (sm 1 9), [], true⟩)))))) (.x)) (.x)))
def c58_6_f (j : Nat) (z : Pat) : CFn := ⟨58, c58_6_a, z, [⟨none, numA 0 c58_6_a.vs, c58_6_a.mem, 8, 4, c58_6_T0 j⟩], 0⟩
noncomputable def c58_6_c := mkf [c314_c, c193_c, c195_c] (c58_6_f 0 c58_6_z0)

def c212_a : Pat := ⟨[nlS, fv 0], [], 0, 1⟩
def c212_z0 : Pat := ⟨[tt], [], 1, 0⟩
def c212_T0 (j : Nat) : Tr Lf := .e .len [fv 0] (.t (.bin .neq) [iv 0, sv 0] (.x) (.lf (.go 1 ⟨[iv 0, iv 0], [(fv 0, 2)], [], [], true⟩)))
def c212_T1 (j : Nat) : Tr Lf := .t (.bin .lss) [sv 1, sv 0] (.x) (rv j 0 ⟨[tt], [], [], [], true⟩)
def c212_f (j : Nat) (z : Pat) : CFn := ⟨212, c212_a, z, [⟨none, numA 0 c212_a.vs, c212_a.mem, 0, 1, c212_T0 j⟩, ⟨(some [1, 1, 0, 1, 0]), [(0, nlS), (1, fv 0), (12, sv 0), (13, sv 1)], [], 2, 1, c212_T1 j⟩], 0⟩
noncomputable def c212_c := mk [] (c212_f 0 c212_z0)

def c222_a : Pat := ⟨[pp 1], [.cells [sv 0, .chan (some 2)], .lst false 1 0], 1, 1⟩
def c222_z0 : Pat := ⟨[sv 1], [.cells [sv 0, .chan (some 2)], .lst false 1 0], 2, 1⟩
def c222_T0 (j : Nat) : Tr Lf := .e .len [fv 0] (.t (.bin .eql) [sv 1, iv 0] (.x) (rv j 0 ⟨[sv 0, sv 1], [(fv 0, 1)], [.same 1, .same 2], [], true⟩))
def c222_f (j : Nat) (z : Pat) : CFn := ⟨222, c222_a, z, [⟨none, numA 0 c222_a.vs, c222_a.mem, 1, 1, c222_T0 j⟩], 0⟩
noncomputable def c222_c := mkf [] (c222_f 0 c222_z0)

def c121_a : Pat := ⟨[pp 1, sv 1], [.cells [sv 0, .chan (some 2)], .lst false 1 0], 2, 1⟩
def c121_z0 : Pat := ⟨[ag [sv 1, sv 2], sv 3], [.cells [sv 0, .chan (some 2)], .lst false 1 0], 4, 1⟩
def c121_T0 (j : Nat) : Tr Lf := .e .len [fv 0] (.t (.bin .eql) [sv 2, iv 0] (.x) (.t (.bin .lss) [sv 1, iv 0] (.x) (.t (.bin .geq) [sv 1, sv 2] (.x) (.d (.conv .u64) [sv 1] (.d (.bin .shr) [sv 0, sv 3] (.d (.bin .and) [sv 4, .int .u64 (.ofNat 1)] (.t (.bin .eql) [sv 5, .int .u64 (.ofNat 1)] (.e (.iad 1) [fv 0, sv 1] (.l 1 [true] (rv j 0 ⟨[sv 0, sv 1, sv 6, tt], [(fv 0, 1)], [.same 1, .same 2], [], true⟩))) (rv j 0 ⟨[sv 0, iv 0, iv 0, ff], [(fv 0, 1)], [.same 1, .same 2], [], true⟩))))))))
def c121_f (j : Nat) (z : Pat) : CFn := ⟨121, c121_a, z, [⟨none, numA 0 c121_a.vs, c121_a.mem, 2, 1, c121_T0 j⟩], 0⟩
noncomputable def c121_c := mkf [] (c121_f 0 c121_z0)

def c141_a : Pat := ⟨[pp 1], [.cells [sv 0, .chan (some 2)], .lst false 1 0], 1, 1⟩
def c141_z0 : Pat := ⟨[.chan (some 3)], [.cells [sv 0, .chan (some 2)], .lst false 1 0, .lst false 2 1], 1, 2⟩
def c141_T0 (j : Nat) : Tr Lf := .c 0 ⟨[sv 0], [(fv 0, 1)], [.same 1, .same 2], [], true⟩ (.lf (.go 1 ⟨[sv 1, sv 2, iv 0], [(fv 1, 1), (nlS, 2)], [.same 1, .same 2, .nil], [], true⟩))
def c141_T1 (j : Nat) : Tr Lf := .t (.bin .lss) [sv 2, sv 1] (.c 1 ⟨[sv 0, sv 2], [(fv 0, 1)], [.same 1, .same 2], [], true⟩ (.t .truth [sv 6] (.e (.app 2) [fv 1, sv 4, sv 5] (.d (.bin .add) [sv 2, iv 1] (.lf (.go 1 ⟨[sv 3, sv 1, sv 7], [(fv 2, 1), (fv 3, 2)], [.same 1, .same 2, .same 6], [], true⟩)))) (.d (.bin .add) [sv 2, iv 1] (.lf (.go 1 ⟨[sv 3, sv 1, sv 7], [(fv 2, 1), (fv 1, 2)], (sm 1 3), [], true⟩))))) (rv j 0 ⟨[sv 0], [(fv 0, 1), (fv 1, 2)], (sm 1 3), [], true⟩)
def c141_f (j : Nat) (z : Pat) : CFn := ⟨141, c141_a, z, [⟨none, numA 0 c141_a.vs, c141_a.mem, 1, 1, c141_T0 j⟩, ⟨(some [1, 1, 0, 1, 0]), [(0, pp 1), (3, .chan (some 3)), (8, sv 1), (9, sv 2)], [.cells [sv 0, .chan (some 2)], .lst false 1 0, .lst false 2 1], 3, 2, c141_T1 j⟩], 0⟩
noncomputable def c141_c := mkf [c222_c, c121_c] (c141_f 0 c141_z0)

def c142_a : Pat := ⟨[pp 1], [.cells [pp 2, .chan (some 8), nlS], k44, .cells [sv 0, .chan (some 4)], .lst false 1 0, .cells [.map (some 6)], .mp 4 1, .lst false 27 2, .lst false 1 3], 11, 4⟩
def c142_z0 : Pat := ⟨[], [.cells [pp 2, .chan (some 8), nlS], k44, .cells [sv 0, .chan (some 4)], .lst false 1 0, .cells [.map (some 6)], .mp 4 1, .lst false 27 2, .lst false 1 3], 11, 4⟩
def c142_T0 (j : Nat) : Tr Lf := rv j 0 ⟨(svs 0 11), [(fv 0, 1), (fv 1, 5), (fv 2, 27), (fv 3, 1)], (sm 1 8), [], true⟩
def c142_f (j : Nat) (z : Pat) : CFn := ⟨142, c142_a, z, [⟨none, numA 0 c142_a.vs, c142_a.mem, 11, 4, c142_T0 j⟩], 0⟩
noncomputable def c142_c := mkf [] (c142_f 0 c142_z0)

def c272_a : Pat := ⟨[.slice (some ⟨1, 0, none⟩) 2 2], [.cells (svs 0 8)], 8, 0⟩
def c272_z0 : Pat := ⟨[ag (svs 8 4)], [.cells (svs 0 8)], 12, 0⟩
def c272_T0 (j : Nat) : Tr Lf := .c 0 ⟨[sv 0, sv 1, sv 4, sv 5], [], [.same 3], [], true⟩ (.c 0 ⟨[sv 2, sv 3, sv 6, sv 7], [], [.same 4], [], true⟩ (rv j 0 ⟨(svs 0 8 ++ [sv 12, sv 13, sv 18, sv 19]), [], [.same 1], [], true⟩))
def c272_f (j : Nat) (z : Pat) : CFn := ⟨272, c272_a, z, [⟨none, numA 0 c272_a.vs, c272_a.mem, 8, 0, c272_T0 j⟩], 0⟩
noncomputable def c272_c := mk [c328_1_c] (c272_f 0 c272_z0)

def c346_a : Pat := ⟨[ag [sv 0, sv 1], pp 1], [.cells [sv 2]], 3, 0⟩
def c346_z0 : Pat := ⟨[ag [sv 1, ff]], [.cells [sv 0]], 3, 0⟩
def c346_T0 (j : Nat) : Tr Lf := .d (.un .neg) [sv 2] (.c 0 ⟨[sv 3], [], [], [], true⟩ (.d (.bin .shl) [sv 5, .int .u64 (.ofNat 32)] (.d (.bin .shr) [sv 5, .int .u64 (.ofNat 32)] (.d (.bin .or) [.int .u64 (.ofNat 0), sv 8] (.c 1 ⟨[sv 4, sv 7, sv 9, ff], [], [], [], true⟩ (.c 0 ⟨[sv 2], [], [], [], true⟩ (.d (.bin .shl) [sv 13, .int .u64 (.ofNat 32)] (.d (.bin .shr) [sv 13, .int .u64 (.ofNat 32)] (.d (.bin .or) [.int .u64 (.ofNat 0), sv 16] (.c 1 ⟨[sv 12, sv 15, sv 17, ff], [], [], [], true⟩ (.c 2 ⟨[iv 1, sv 0, sv 1, sv 18, sv 19], [], [.same 14], [], true⟩ (.c 2 ⟨[nv 0, sv 10, sv 11, sv 24, sv 25], [], [.same 16], [], true⟩ (rv j 0 ⟨[sv 2, sv 30, ff], [], [.same 1], [], true⟩)))))))))))))
def c346_f (j : Nat) (z : Pat) : CFn := ⟨346, c346_a, z, [⟨none, numA 0 c346_a.vs, c346_a.mem, 3, 0, c346_T0 j⟩], 0⟩
noncomputable def c346_c := mk [c149_c, c152_c, c236_c] (c346_f 0 c346_z0)

def c282_a : Pat := ⟨[ag (svs 0 4), sv 4], [], 5, 0⟩
def c282_z0 : Pat := ⟨[ag [sv 0, ff, sv 2, ff]], [], 4, 0⟩
def c282_T0 (j : Nat) : Tr Lf := .c 0 ⟨[sv 0, sv 1, sv 4], [], [.same 2], [], true⟩ (.c 0 ⟨[sv 2, sv 3, sv 5], [], [.same 2], [], true⟩ (rv j 0 ⟨[sv 6, ff, sv 9, ff], [], [], [], true⟩))
def c282_f (j : Nat) (z : Pat) : CFn := ⟨282, c282_a, z, [⟨none, numA 0 c282_a.vs, c282_a.mem, 5, 0, c282_T0 j⟩], 0⟩
noncomputable def c282_c := mk [c346_c] (c282_f 0 c282_z0)

def c225_a : Pat := ⟨[ag (svs 0 4 ++ [fv 0] ++ svs 4 22), ag (svs 26 4), ag [sv 30, sv 31]], [], 32, 1⟩
def c225_z0 : Pat := ⟨[ag (svs 0 4 ++ [fv 0] ++ svs 4 9 ++ [ff, sv 14, ff] ++ svs 16 10)], [], 26, 1⟩
def c225_T0 (j : Nat) : Tr Lf := .c 0 ⟨(svs 0 26), [(fv 0, 2)], [], [], false⟩ (.t (.bin .neq) [sv 18, iv 0] (.t .truth [sv 23] (.x) (.d (.un .not) [sv 24] (.t .truth [sv 58] (.c 1 ⟨[sv 26, sv 27, sv 30, sv 31], [], [], [], true⟩ (.c 1 ⟨(svs 28 4), [], [], [], true⟩ (.c 2 ⟨(svs 12 4 ++ svs 59 4), [], [.same 12], [], true⟩ (.c 3 ⟨(svs 71 4 ++ [iv 256]), [], [], [], true⟩ (rv j 0 ⟨(svs 32 12 ++ [sv 75, ff, sv 77, ff] ++ svs 48 10), [(fv 1, 2)], [], [], true⟩))))) (.x)))) (.x))
def c225_f (j : Nat) (z : Pat) : CFn := ⟨225, c225_a, z, [⟨none, numA 0 c225_a.vs, c225_a.mem, 32, 1, c225_T0 j⟩], 0⟩
noncomputable def c225_c := mkf [c99_c, c308_c, c272_c, c282_c] (c225_f 0 c225_z0)

def c143_a : Pat := ⟨[pp 1], [.cells [pp 2, .chan (some 8), nlS], k44, .cells [sv 0, .chan (some 4)], .lst false 1 0, .cells [.map (some 6)], .mp 4 1, .lst false 27 2, .lst false 1 3], 11, 4⟩
def c143_z0 : Pat := ⟨[], [.cells [pp 2, .chan (some 8), nlS], k44, .cells [sv 0, .chan (some 4)], .lst false 1 0, .cells [.map (some 6)], .mp 4 1, .lst false 27 2, .lst false 1 3], 11, 4⟩
def c143_T0 (j : Nat) : Tr Lf := .e .len [fv 3] (.lf (.go 1 ⟨(svs 0 12 ++ [iv 0]), [(fv 0, 1), (fv 1, 5), (fv 2, 27), (fv 3, 1)], (sm 1 8), [], true⟩))
def c143_T1 (j : Nat) : Tr Lf := .t (.bin .lss) [sv 12, sv 11] (.e (.iad 1) [fv 3, sv 12] (.l 4 [true] (.e (.iad 27) [fv 2, sv 13] (.l 5 [true, true, true, true, false, true, true, true, true, true, true, true, true, true, true, true, true, true, true, true, true, true, true, true, true, true, true] (.c 0 ⟨(svs 14 26 ++ svs 1 6), [(fv 6, 2)], [], [], false⟩ (.e (.set 27 0) ([fv 2, sv 13] ++ svs 40 4 ++ [fv 7] ++ svs 44 9 ++ [ff, sv 54, ff] ++ svs 56 10) (.d (.bin .add) [sv 12, iv 1] (.lf (.go 1 ⟨(svs 0 12 ++ [sv 66]), [(fv 0, 1), (fv 1, 5), (fv 8, 27), (fv 3, 1)], (sm 1 8), [], true⟩))))))))) (rv j 0 ⟨(svs 0 11), [(fv 0, 1), (fv 1, 5), (fv 2, 27), (fv 3, 1)], (sm 1 8), [], true⟩)
def c143_f (j : Nat) (z : Pat) : CFn := ⟨143, c143_a, z, [⟨none, numA 0 c143_a.vs, c143_a.mem, 11, 4, c143_T0 j⟩, ⟨(some [1, 0]), [(0, pp 1), (7, .chan (some 8)), (8, sv 11), (9, sv 12)], [.cells [pp 2, .chan (some 8), nlS], k44, .cells [sv 0, .chan (some 4)], .lst false 1 0, .cells [.map (some 6)], .mp 4 1, .lst false 27 2, .lst false 1 3], 13, 4, c143_T1 j⟩], 0⟩
noncomputable def c143_c := mkf [c225_c] (c143_f 0 c143_z0)

def c103_a : Pat := ⟨[sv 0], [], 1, 0⟩
def c103_z0 : Pat := ⟨[sv 0], [], 1, 0⟩
def c103_T0 (j : Nat) : Tr Lf := .c 0 ⟨[sv 0], [], [], [], true⟩ (rv j 0 ⟨[sv 1], [], [], [], true⟩)
def c103_f (j : Nat) (z : Pat) : CFn := ⟨103, c103_a, z, [⟨none, numA 0 c103_a.vs, c103_a.mem, 1, 0, c103_T0 j⟩], 0⟩
noncomputable def c103_c := mk [c176_c] (c103_f 0 c103_z0)

def c393_a : Pat := ⟨[.chan (some 1), sv 0, sv 1, .func (.func 286) ⟨[]⟩ ⟨[pp 2]⟩], [.lst false 1 0, .cells [pp 3], .cells [.map (some 4)], .mp 4 1], 2, 2⟩
def c393_z0 : Pat := ⟨[], [.lst false 1 0, .cells [pp 3], .cells [.map (some 4)], .mp 4 1], 0, 2⟩
def c393_T0 (j : Nat) : Tr Lf := .d (.bin .add) [sv 0, iv 1] (.lf (.go 1 ⟨(svs 0 3), [(fv 0, 1), (fv 1, 5)], (sm 1 4), [], true⟩))
def c393_T1 (j : Nat) : Tr Lf := .t (.bin .lss) [sv 2, sv 1] (.x) (rv j 0 ⟨[], [(fv 0, 1), (fv 1, 5)], (sm 1 4), [], true⟩)
def c393_f (j : Nat) (z : Pat) : CFn := ⟨393, c393_a, z, [⟨none, numA 0 c393_a.vs, c393_a.mem, 2, 2, c393_T0 j⟩, ⟨(some [1, 0]), [(0, .chan (some 1)), (1, sv 0), (2, sv 1), (3, .func (.func 286) ⟨[]⟩ ⟨[pp 2]⟩), (8, sv 2)], [.lst false 1 0, .cells [pp 3], .cells [.map (some 4)], .mp 4 1], 3, 2, c393_T1 j⟩], 0⟩
noncomputable def c393_c := mkf [] (c393_f 0 c393_z0)

def c349_a : Pat := ⟨([.chan (some 1)] ++ svs 0 3 ++ [.func (.func 286) ⟨[]⟩ ⟨[pp 2]⟩]), [.lst false 1 0, .cells [pp 3], .cells [.map (some 4)], .mp 4 1], 3, 2⟩
def c349_z0 : Pat := ⟨[], [.lst false 1 0, .cells [pp 3], .cells [.map (some 4)], .mp 4 1], 0, 2⟩
def c349_T0 (j : Nat) : Tr Lf := .lf (.go 1 ⟨(svs 0 3 ++ [tt, tt]), [(fv 0, 1), (fv 1, 5)], (sm 1 4), [], true⟩)
def c349_T1 (j : Nat) : Tr Lf := .d (.bin .sub) [sv 1, sv 0] (.t (.bin .leq) [sv 5, iv 12] (.c 0 ⟨[sv 0, sv 1], [(fv 0, 1), (fv 1, 5)], (sm 1 4), [], true⟩ (rv j 0 ⟨[], [(fv 2, 1), (fv 3, 5)], (sm 1 4), [], true⟩)) (.x))
def c349_f (j : Nat) (z : Pat) : CFn := ⟨349, c349_a, z, [⟨none, numA 0 c349_a.vs, c349_a.mem, 3, 2, c349_T0 j⟩, ⟨(some [1, 1, 0]), [(0, .chan (some 1)), (1, sv 0), (2, sv 1), (3, sv 2), (4, .func (.func 286) ⟨[]⟩ ⟨[pp 2]⟩), (10, sv 3), (11, sv 4)], [.lst false 1 0, .cells [pp 3], .cells [.map (some 4)], .mp 4 1], 5, 2, c349_T1 j⟩], 0⟩
noncomputable def c349_c := mkf [c393_c] (c349_f 0 c349_z0)

def c350_a : Pat := ⟨[fv 0, .func (.func 290) ⟨[]⟩ ⟨[pp 1, pp 4]⟩], [.cells [pp 2], .cells [.map (some 3)], .mp 4 1, .cells (svs 0 4)], 4, 2⟩
def c350_z0 : Pat := ⟨[nv 0], [.cells [pp 2], .cells [.map (some 3)], .mp 4 0, .cells (svs 0 4)], 5, 1⟩
def c350_T0 (j : Nat) : Tr Lf := .e .len [fv 0] (.lf (.go 1 ⟨(svs 0 5 ++ [iv 0]), [(fv 1, 5), (fv 0, 1)], (sm 1 4), [], true⟩))
def c350_T1 (j : Nat) : Tr Lf := .t (.bin .lss) [sv 5, sv 4] (.x) (rv j 0 ⟨(svs 0 4 ++ [nv 0]), [(fv 0, 5)], (sm 1 4), [], true⟩)
def c350_f (j : Nat) (z : Pat) : CFn := ⟨350, c350_a, z, [⟨none, numA 0 c350_a.vs, c350_a.mem, 4, 2, c350_T0 j⟩, ⟨(some [1, 0, 1, 0]), [(0, fv 1), (1, .func (.func 290) ⟨[]⟩ ⟨[pp 1, pp 4]⟩), (7, sv 4), (8, sv 5)], [.cells [pp 2], .cells [.map (some 3)], .mp 4 0, .cells (svs 0 4)], 6, 2, c350_T1 j⟩], 0⟩
noncomputable def c350_c := mkf [] (c350_f 0 c350_z0)

def c289_a : Pat := ⟨[.chan (some 1), .func (.func 290) ⟨[]⟩ ⟨[pp 2, pp 5]⟩], [.lst false 1 0, .cells [pp 3], .cells [.map (some 4)], .mp 4 1, .cells (svs 0 4)], 4, 2⟩
def c289_z0 : Pat := ⟨[.chan (some 1)], [.lst false 1 0, .cells [pp 3], .cells [.map (some 4)], .mp 4 1, .cells (svs 0 4)], 4, 2⟩
def c289_T0 (j : Nat) : Tr Lf := .c 0 ⟨(svs 0 4), [(fv 0, 1), (fv 1, 5)], (sm 2 4), [], true⟩ (rv j 0 ⟨(svs 4 4), [(fv 0, 1), (fv 2, 5)], (sm 1 5), [], true⟩)
def c289_f (j : Nat) (z : Pat) : CFn := ⟨289, c289_a, z, [⟨none, numA 0 c289_a.vs, c289_a.mem, 4, 2, c289_T0 j⟩], 0⟩
noncomputable def c289_c := mkf [c350_c] (c289_f 0 c289_z0)

def c401_a : Pat := ⟨[.chan (some 1), sv 0, sv 1, .func (.func 293) ⟨[]⟩ ⟨[]⟩], [.lst false 2 0], 2, 1⟩
def c401_z0 : Pat := ⟨[], [.lst false 2 0], 0, 1⟩
def c401_T0 (j : Nat) : Tr Lf := .d (.bin .add) [sv 0, iv 1] (.lf (.go 1 ⟨(svs 0 3), [(fv 0, 2)], [.same 1], [], true⟩))
def c401_T1 (j : Nat) : Tr Lf := .t (.bin .lss) [sv 2, sv 1] (.x) (rv j 0 ⟨[], [(fv 0, 2)], [.same 1], [], true⟩)
def c401_f (j : Nat) (z : Pat) : CFn := ⟨401, c401_a, z, [⟨none, numA 0 c401_a.vs, c401_a.mem, 2, 1, c401_T0 j⟩, ⟨(some [1, 0]), [(0, .chan (some 1)), (1, sv 0), (2, sv 1), (3, .func (.func 293) ⟨[]⟩ ⟨[]⟩), (8, sv 2)], [.lst false 2 0], 3, 1, c401_T1 j⟩], 0⟩
noncomputable def c401_c := mkf [] (c401_f 0 c401_z0)

def c351_a : Pat := ⟨([.chan (some 1)] ++ svs 0 3 ++ [.func (.func 293) ⟨[]⟩ ⟨[]⟩]), [.lst false 2 0], 3, 1⟩
def c351_z0 : Pat := ⟨[], [.lst false 2 0], 0, 1⟩
def c351_T0 (j : Nat) : Tr Lf := .lf (.go 1 ⟨(svs 0 3 ++ [tt, tt]), [(fv 0, 2)], [.same 1], [], true⟩)
def c351_T1 (j : Nat) : Tr Lf := .d (.bin .sub) [sv 1, sv 0] (.t (.bin .leq) [sv 5, iv 12] (.c 0 ⟨[sv 0, sv 1], [(fv 0, 2)], [.same 1], [], true⟩ (rv j 0 ⟨[], [(fv 1, 2)], [.same 1], [], true⟩)) (.x))
def c351_f (j : Nat) (z : Pat) : CFn := ⟨351, c351_a, z, [⟨none, numA 0 c351_a.vs, c351_a.mem, 3, 1, c351_T0 j⟩, ⟨(some [1, 1, 0]), [(0, .chan (some 1)), (1, sv 0), (2, sv 1), (3, sv 2), (4, .func (.func 293) ⟨[]⟩ ⟨[]⟩), (10, sv 3), (11, sv 4)], [.lst false 2 0], 5, 1, c351_T1 j⟩], 0⟩
noncomputable def c351_c := mkf [c401_c] (c351_f 0 c351_z0)

def c226_a : Pat := ⟨[pp 1], [.cells [.map (some 2)], .mp 4 0], 0, 1⟩
def c226_z0 : Pat := ⟨[.chan (some 3)], [.cells [.map (some 2)], .mp 4 0, .lst false 2 1], 0, 2⟩
def c226_T0 (j : Nat) : Tr Lf := .e .mkeys [fv 0] (.e .len [fv 1] (.d (.conv .u64) [sv 0] (.c 0 ⟨[sv 1], [], [], [], true⟩ (.c 1 ⟨[iv 0, sv 0, sv 2], [(fv 1, 1), (fv 0, 5)], [.same 4, .same 3, .same 1, .same 2], [], true⟩ (.e .len [fv 2] (.lf (.go 1 ⟨[sv 3, iv 0], [(fv 3, 5), (nlS, 1), (fv 2, 1)], (sm 1 3 ++ [.nil, .same 4]), [], true⟩)))))))
def c226_T1 (j : Nat) : Tr Lf := .t (.bin .lss) [sv 1, sv 0] (.e (.iad 1) [fv 2, sv 1] (.l 3 [true] (.u .mhas [fv 0, sv 2] (.e (.mrow 4) [fv 0, sv 2] (.l 4 [true, true, true, true] (.c 2 ⟨(svs 3 4), [(fv 1, 1), (fv 0, 5)], [.same 4, .same 3, .same 1, .same 2, .same 6], [], true⟩ (.e .len [fv 5] (.lf (.go 2 ⟨([sv 2] ++ svs 7 4 ++ [sv 0, sv 1, tt, sv 2] ++ svs 2 5 ++ [sv 11, iv 0]), [(fv 6, 5), (fv 5, 1), (fv 2, 1)], (sm 1 4 ++ [.same 6, .same 5]), [], true⟩)))))) (.x)))) (.c 0 ⟨[.int .u64 (.ofNat 0)], [], [], [], true⟩ (.c 3 ⟨[iv 0, iv 0, sv 2], [(nlS, 2)], [.nil], [], true⟩ (rv j 0 ⟨[], [(fv 0, 5), (nlS, 2)], [.same 1, .same 2, .nil], [], true⟩)))
def c226_T2 (j : Nat) : Tr Lf := .t (.bin .lss) [sv 15, sv 14] (.x) (.e (.app 1) [fv 1, sv 0] (.d (.bin .add) [sv 6, iv 1] (.lf (.go 1 ⟨[sv 5, sv 16], [(fv 0, 5), (fv 3, 1), (fv 2, 1)], (sm 1 3 ++ [.same 8, .same 6]), [], true⟩))))
def c226_f (j : Nat) (z : Pat) : CFn := ⟨226, c226_a, z, [⟨none, numA 0 c226_a.vs, c226_a.mem, 0, 1, c226_T0 j⟩, ⟨(some [1, 1, 1, 1, 1, 0, 1, 0]), [(1, pp 3), (4, nlS), (5, .chan (some 4)), (16, .chan (some 5)), (17, sv 0), (18, sv 1)], [.cells [.map (some 2)], .mp 4 0, .cells [pp 1], .lst false 1 1, .lst false 1 2], 2, 3, c226_T1 j⟩, ⟨(some [1, 1, 1, 1, 1, 0, 1, 0, 0, 1, 1, 0, 0, 1, 1, 1, 0, 1, 0]), [(1, pp 3), (4, nlS), (5, .chan (some 4)), (7, sv 0), (8, pp 5), (16, .chan (some 6)), (17, sv 5), (18, sv 6), (19, sv 7), (21, sv 8), (22, pp 1), (23, pp 1), (24, pp 1), (25, .map (some 2)), (26, sv 9), (27, ag (svs 10 4)), (28, .chan (some 4)), (29, .func (.func 290) ⟨[]⟩ ⟨[pp 3, pp 5]⟩), (30, .chan (some 4)), (31, .chan (some 4)), (32, sv 14), (33, sv 15)], [.cells [.map (some 2)], .mp 4 0, .cells [pp 1], .lst false 1 1, .cells (svs 1 4), .lst false 1 2], 16, 3, c226_T2 j⟩], 0⟩
noncomputable def c226_c := mkf [c103_c, c349_c, c289_c, c351_c] (c226_f 0 c226_z0)

def c144_a : Pat := ⟨[pp 1], [.cells [pp 2, .chan (some 8), nlS], k44, .cells [sv 0, .chan (some 4)], .lst false 1 0, .cells [.map (some 6)], .mp 4 1, .lst false 27 2, .lst false 1 3], 11, 4⟩
def c144_z0 : Pat := ⟨[], [.cells [pp 2, .chan (some 8), nlS], k44, .cells [sv 0, .chan (some 4)], .lst false 1 0, .cells [.map (some 6)], .mp 4 1, .lst false 27 2, .lst false 1 3], 11, 4⟩
def c144_T0 (j : Nat) : Tr Lf := .c 0 ⟨[], [(fv 1, 5)], [.same 5, .same 6], [], true⟩ (.e .len [fv 5] (.lf (.go 1 ⟨(svs 0 12 ++ [iv 0]), [(fv 0, 1), (fv 4, 5), (fv 2, 27), (fv 3, 1), (fv 5, 2)], (sm 1 9), [], true⟩)))
def c144_T1 (j : Nat) : Tr Lf := .t (.bin .lss) [sv 12, sv 11] (.x) (rv j 0 ⟨(svs 0 11), [(fv 0, 1), (fv 1, 5), (fv 2, 27), (fv 3, 1)], (sm 1 8), [], true⟩)
def c144_f (j : Nat) (z : Pat) : CFn := ⟨144, c144_a, z, [⟨none, numA 0 c144_a.vs, c144_a.mem, 11, 4, c144_T0 j⟩, ⟨(some [1, 0]), [(0, pp 1), (15, .chan (some 9)), (16, sv 11), (17, sv 12)], [.cells [pp 2, .chan (some 8), nlS], k44, .cells [sv 0, .chan (some 4)], .lst false 1 0, .cells [.map (some 6)], .mp 4 1, .lst false 27 2, .lst false 1 3, .lst false 2 4], 13, 5, c144_T1 j⟩], 0⟩
noncomputable def c144_c := mkf [c226_c] (c144_f 0 c144_z0)

end Go.Proofs.YtgddinljekkhdaaGreat.U
