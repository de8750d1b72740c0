/- Contracts of the functions that the law reaches. -/
import Derived.Test.YtgddinljekkhdaaGreatZAw
set_option linter.unusedSimpArgs false
set_option linter.unusedVariables false
namespace Go.Proofs.YtgddinljekkhdaaGreat.U
open Go Go.Eng
set_option maxRecDepth 100000
def rv (j i : Nat) (a : Sub) : Tr Lf := bif Nat.beq j i then .lf (.ret a) else .x
def rp (n : Nat) (v : Value) : List Value := List.replicate n v
def ub (l : List Nat) : List Value := l.map fun n => .int .u8 (.ofNat n)
def pp (n : Nat) : Value := .pointer (some ⟨n, 0, none⟩)
def nlS : Value := .slice none 0 0
def tt : Value := .bool true
def ff : Value := .bool false
def sm : Nat → Nat → List PB
  | _, 0 => []
  | a, n + 1 => .same a :: sm (Nat.succ a) n
def ne (n : Nat) : Nat → Nat → Tr Lf → Tr Lf
  | _, 0, T => T
  | a, k + 1, T => .t .eqi [sv n, .int .i64 (.ofNat a)] .x (ne n (Nat.succ a) k T)
noncomputable def mk (cs : List (Ctr Tryz.prog)) (F : CFn) (h1 : (patOK F.pre.mem && patOK F.post.mem && Nat.ble F.pre.mem.length F.post.mem.length && F.post.okR true) = true := by rfl) (h2 : ∀ u, F.okU cs ⟨440, 442, 240⟩ prA u = true := by intro u; kernel_rfl) (h3 : F.firstB Tryz.prog = true := by kernel_rfl) (h4 : F.first := by exact ⟨_, rfl, rfl, rfl, rfl, rfl, rfl⟩) (h5 : F.mode = 0 := by rfl) : Ctr Tryz.prog := CFn.ctr0 pok prA_ok cs F h1 h2 h3 h4 (.inl h5)
noncomputable def mkf (cs : List (Ctr Tryz.prog)) (F : CFn) (h1 : (patOK F.pre.mem && patOK F.post.mem && Nat.ble F.pre.mem.length F.post.mem.length && F.post.okR true) = true := by rfl) (h2 : ∀ u, F.okU cs ⟨440, 442, 240⟩ prA u = true := by intro u; kernel_rfl) (h3 : F.firstB Tryz.prog = true := by kernel_rfl) (h4 : F.first := by exact ⟨_, rfl, rfl, rfl, rfl, rfl, rfl⟩) (h5 : F.mode = 0 := by rfl) : Ctr Tryz.prog := Ctr.flatC (CFn.ctr0 pok prA_ok cs F h1 h2 h3 h4 (.inl h5))
def k0 : LB := .cells [iv 0, ff, sv 5, ff, iv 67108864, ff, sv 6, sv 7, iv 4, sv 8, sv 9, pp 3, .map (some 12), nlS, iv 0, iv 0]
def k1 : LB := .cells [iv 0, ff, sv 5, ff, iv 67108864, ff, sv 6, sv 7, iv 3, sv 8, sv 9, pp 3, .map (some 12), nlS, iv 0, iv 0]
def k2 : LB := .cells [iv 0, ff, sv 5, ff, iv 67108864, ff, sv 6, sv 7, iv 2, sv 8, sv 9, pp 3, .map (some 12), nlS, iv 0, iv 0]
def k3 : LB := .cells [iv 0, ff, sv 5, ff, iv 67108864, ff, sv 6, sv 7, iv 1, sv 8, sv 9, pp 3, .map (some 12), nlS, iv 0, iv 0]
def k4 : LB := .cells [iv 0, ff, sv 0, ff, iv 67108864, ff, sv 1, sv 2, iv 4, sv 3, sv 4]
def k5 : LB := .cells [iv 0, ff, sv 0, ff, iv 67108864, ff, sv 1, sv 2, iv 3, sv 3, sv 4]
def k6 : LB := .cells [iv 0, ff, sv 0, ff, iv 67108864, ff, sv 1, sv 2, iv 2, sv 3, sv 4]
def k7 : LB := .cells [iv 0, ff, sv 0, ff, iv 67108864, ff, sv 1, sv 2, iv 1, sv 3, sv 4]
def k8 : LB := .cells ([pp 7, pp 9] ++ svs 11 8 ++ [.chan (some 11), nlS, sv 19, sv 20])
def k9 : LB := .cells ([pp 7, pp 9] ++ svs 10 8 ++ [.chan (some 11), nlS, iv 0, iv 0])
def k10 : LB := .cells ([pp 6, pp 8] ++ svs 5 8 ++ [.chan (some 10), nlS, iv 0, iv 0])
def k11 : LB := .cells ([pp 3, pp 5] ++ svs 1 8 ++ [.chan (some 7), nlS, sv 9, sv 10])
def k12 : LB := .cells ([pp 5, ff, ff, tt, tt, tt] ++ rp 12 (ff) ++ [nlS])
def k13 : LB := .cells ([pp 5, ff, tt, ff, tt, tt] ++ rp 12 (ff) ++ [nlS])
def k14 : LB := .cells ([pp 5, ff, tt, tt, ff, tt] ++ rp 12 (ff) ++ [nlS])
def k15 : LB := .cells ([pp 5, ff] ++ rp 4 (tt) ++ rp 12 (ff) ++ [nlS])
def k16 : LB := .cells ([pp 5, ff, tt, tt, tt] ++ rp 13 (ff) ++ [nlS])
def k17 : LB := .cells ([pp 5, ff, ff, tt, tt] ++ rp 13 (ff) ++ [nlS])
def k18 : LB := .cells ([pp 5, ff, tt, ff, tt] ++ rp 13 (ff) ++ [nlS])
def k19 : LB := .cells ([pp 5, ff, tt, tt] ++ rp 14 (ff) ++ [nlS])
def k20 : LB := .cells ([pp 5, ff, ff, tt] ++ rp 14 (ff) ++ [nlS])
def k21 : LB := .cells ([pp 5, ff, tt] ++ rp 15 (ff) ++ [nlS])
def k22 : LB := .cells [.int .u64 (.ofNat 0), .chan (some 7)]
def k23 : LB := .cells [.int .u64 (.ofNat 0), .chan (some 8)]
def k24 : LB := .map [⟨iv 1, pp 13, 0⟩, ⟨iv 2, pp 15, 0⟩] 0
def k25 : LB := .map [⟨iv 2, pp 13, 0⟩, ⟨iv 1, pp 15, 0⟩] 0
def k26 : LB := .cells ([ff, ff, tt, tt, tt] ++ rp 13 (ff))
def k27 : LB := .cells ([ff, tt, ff, tt, tt] ++ rp 13 (ff))
def k28 : LB := .cells ([ff, tt, tt, ff, tt] ++ rp 13 (ff))
def k29 : LB := .cells ([ff] ++ rp 4 (tt) ++ rp 13 (ff))
def k30 : LB := .cells ([ff, tt, tt, tt] ++ rp 14 (ff))
def k31 : LB := .cells ([ff, ff, tt, tt] ++ rp 14 (ff))
def k32 : LB := .cells ([ff, tt, ff, tt] ++ rp 14 (ff))
def k33 : LB := .cells ([pp 4] ++ rp 17 (ff) ++ [nlS])
def k34 : LB := .cells ([pp 5] ++ rp 17 (ff) ++ [nlS])
def c6_a : Pat := ⟨[sv 0, sv 1], [], 2, 0⟩
def c6_z0 : Pat := ⟨[ag [iv 0, ff, sv 2, ff, iv 67108864, ff, sv 6, sv 7, iv 1, sv 8, sv 9]], [], 10, 0⟩
def c6_z1 : Pat := ⟨[ag [iv 0, ff, sv 2, ff, iv 67108864, ff, sv 6, sv 7, iv 2, sv 8, sv 9]], [], 10, 0⟩
def c6_z2 : Pat := ⟨[ag [iv 0, ff, sv 2, ff, iv 67108864, ff, sv 6, sv 7, iv 3, sv 8, sv 9]], [], 10, 0⟩
def c6_z3 : Pat := ⟨[ag [iv 0, ff, sv 2, ff, iv 67108864, ff, sv 6, sv 7, iv 4, sv 8, sv 9]], [], 10, 0⟩
def c6_T0 (j : Nat) : Tr Lf := .d (.conv .u64) [sv 0] (.d (.bin .rem) [sv 2, .int .u64 (.ofNat 4)] (.d (.bin .quo) [sv 2, .int .u64 (.ofNat 4)] (.d (.bin .mul) [sv 4, .int .u64 (.ofNat 6364136223846793005)] (.d (.bin .rem) [sv 2, .int .u64 (.ofNat 1000003)] (.d (.bin .add) [sv 5, sv 6] (.d (.conv .i64) [sv 3] (.d (.bin .add) [iv 1, sv 8] (.d (.bin .rem) [sv 7, .int .u64 (.ofNat 8)] (.d (.bin .quo) [sv 7, .int .u64 (.ofNat 8)] (.d (.bin .mul) [sv 11, .int .u64 (.ofNat 6364136223846793005)] (.d (.bin .rem) [sv 7, .int .u64 (.ofNat 1000003)] (.d (.bin .add) [sv 12, sv 13] (.d (.conv .i64) [sv 10] (.d (.bin .add) [iv 1, sv 15] (.d (.bin .rem) [sv 14, .int .u64 (.ofNat 6)] (.d (.bin .quo) [sv 14, .int .u64 (.ofNat 6)] (.d (.bin .mul) [sv 18, .int .u64 (.ofNat 6364136223846793005)] (.d (.bin .rem) [sv 14, .int .u64 (.ofNat 1000003)] (.d (.bin .add) [sv 19, sv 20] (.d (.conv .i64) [sv 17] (.d (.bin .add) [iv 1, sv 22] (.d (.bin .rem) [sv 21, .int .u64 (.ofNat 4)] (.d (.bin .quo) [sv 21, .int .u64 (.ofNat 4)] (.d (.bin .mul) [sv 25, .int .u64 (.ofNat 6364136223846793005)] (.d (.bin .rem) [sv 21, .int .u64 (.ofNat 1000003)] (.d (.bin .add) [sv 26, sv 27] (.d (.conv .i64) [sv 24] (.d (.bin .add) [iv 1, sv 29] (.d (.bin .rem) [sv 28, .int .u64 (.ofNat 2)] (.d (.bin .quo) [sv 28, .int .u64 (.ofNat 2)] (.d (.bin .mul) [sv 32, .int .u64 (.ofNat 6364136223846793005)] (.d (.bin .rem) [sv 28, .int .u64 (.ofNat 1000003)] (.d (.bin .add) [sv 33, sv 34] (.d (.conv .i64) [sv 31] (.t (.bin .eql) [sv 36, iv 1] (.t .eqi [sv 9, iv 1] (rv j 0 ⟨[iv 0, ff, nv 34359738367, ff, iv 67108864, ff, sv 23, sv 30, sv 16, sv 1], [], [], [], true⟩) (.t .eqi [sv 9, iv 2] (rv j 1 ⟨[iv 0, ff, nv 34359738367, ff, iv 67108864, ff, sv 23, sv 30, sv 16, sv 1], [], [], [], true⟩) (.t .eqi [sv 9, iv 3] (rv j 2 ⟨[iv 0, ff, nv 34359738367, ff, iv 67108864, ff, sv 23, sv 30, sv 16, sv 1], [], [], [], true⟩) (.t .eqi [sv 9, iv 4] (rv j 3 ⟨[iv 0, ff, nv 34359738367, ff, iv 67108864, ff, sv 23, sv 30, sv 16, sv 1], [], [], [], true⟩) (.x))))) (.t .eqi [sv 9, iv 1] (rv j 0 ⟨[iv 0, ff, iv 0, ff, iv 67108864, ff, sv 23, sv 30, sv 16, sv 1], [], [], [], true⟩) (.t .eqi [sv 9, iv 2] (rv j 1 ⟨[iv 0, ff, iv 0, ff, iv 67108864, ff, sv 23, sv 30, sv 16, sv 1], [], [], [], true⟩) (.t .eqi [sv 9, iv 3] (rv j 2 ⟨[iv 0, ff, iv 0, ff, iv 67108864, ff, sv 23, sv 30, sv 16, sv 1], [], [], [], true⟩) (.t .eqi [sv 9, iv 4] (rv j 3 ⟨[iv 0, ff, iv 0, ff, iv 67108864, ff, sv 23, sv 30, sv 16, sv 1], [], [], [], true⟩) (.x))))))))))))))))))))))))))))))))))))))))
def c6_f (j : Nat) (z : Pat) : CFn := ⟨6, c6_a, z, [⟨none, numA 0 c6_a.vs, c6_a.mem, 2, 0, c6_T0 j⟩], 0⟩
noncomputable def c6v0_c := mk [] (c6_f 0 c6_z0)
noncomputable def c6v1_c := mk [] (c6_f 1 c6_z1)
noncomputable def c6v2_c := mk [] (c6_f 2 c6_z2)
noncomputable def c6v3_c := mk [] (c6_f 3 c6_z3)

def c149_a : Pat := ⟨[sv 0], [], 1, 0⟩
def c149_z0 : Pat := ⟨[ag [ff, sv 1, .int .u64 (.ofNat 0)]], [], 3, 0⟩
def c149_T0 (j : Nat) : Tr Lf := .t (.bin .lss) [sv 0, iv 0] (.x) (.d (.conv .u64) [sv 0] (rv j 0 ⟨[ff, sv 1, .int .u64 (.ofNat 0)], [], [], [], true⟩))
def c149_f (j : Nat) (z : Pat) : CFn := ⟨149, c149_a, z, [⟨none, numA 0 c149_a.vs, c149_a.mem, 1, 0, c149_T0 j⟩], 0⟩
noncomputable def c149_c := mk [] (c149_f 0 c149_z0)

def c151_a : Pat := ⟨(svs 0 3), [], 3, 0⟩
def c151_z0 : Pat := ⟨[sv 0, sv 1], [], 2, 0⟩
def c151_T0 (j : Nat) : Tr Lf := .t (.bin .eql) [sv 2, .int .u64 (.ofNat 0)] (.x) (.t (.bin .leq) [sv 2, sv 0] (.x) (.t (.bin .eql) [sv 0, .int .u64 (.ofNat 0)] (.d (.bin .quo) [sv 1, sv 2] (.d (.bin .rem) [sv 1, sv 2] (rv j 0 ⟨[sv 3, sv 4], [], [], [], true⟩))) (.x)))
def c151_f (j : Nat) (z : Pat) : CFn := ⟨151, c151_a, z, [⟨none, numA 0 c151_a.vs, c151_a.mem, 3, 0, c151_T0 j⟩], 0⟩
noncomputable def c151_c := mk [] (c151_f 0 c151_z0)

def c152_a : Pat := ⟨[ag (svs 0 3), sv 3], [], 4, 0⟩
def c152_z0 : Pat := ⟨[ag [sv 0, sv 1]], [], 2, 0⟩
def c152_T0 (j : Nat) : Tr Lf := .t (.bin .eql) [sv 2, .int .u64 (.ofNat 0)] (.t (.bin .leq) [sv 1, .int .u64 (.ofNat 9223372036854775807)] (.d (.conv .i64) [sv 1] (.t .truth [sv 0] (.x) (rv j 0 ⟨[sv 4, sv 3], [], [], [], true⟩))) (.x)) (.x)
def c152_f (j : Nat) (z : Pat) : CFn := ⟨152, c152_a, z, [⟨none, numA 0 c152_a.vs, c152_a.mem, 4, 0, c152_T0 j⟩], 0⟩
noncomputable def c152_c := mk [] (c152_f 0 c152_z0)

def c89_a : Pat := ⟨[sv 0, sv 1], [], 2, 0⟩
def c89_z0 : Pat := ⟨[ag [sv 0, sv 1]], [], 2, 0⟩
def c89_T0 (j : Nat) : Tr Lf := .t (.bin .eql) [sv 1, iv 0] (.x) (.c 0 ⟨[sv 0], [], [], [], true⟩ (.d (.bin .shl) [sv 3, .int .u64 (.ofNat 32)] (.d (.bin .shr) [sv 3, .int .u64 (.ofNat 32)] (.d (.bin .or) [.int .u64 (.ofNat 0), sv 6] (.c 0 ⟨[sv 1], [], [], [], true⟩ (.d (.bin .quo) [sv 7, sv 9] (.d (.bin .rem) [sv 7, sv 9] (.c 1 ⟨[sv 12, sv 5, sv 9], [], [], [], true⟩ (.c 2 ⟨[ff, sv 13, sv 11, ff], [], [], [], true⟩ (rv j 0 ⟨[sv 15, sv 16], [], [], [], true⟩))))))))))
def c89_f (j : Nat) (z : Pat) : CFn := ⟨89, c89_a, z, [⟨none, numA 0 c89_a.vs, c89_a.mem, 2, 0, c89_T0 j⟩], 0⟩
noncomputable def c89_c := mk [c149_c, c151_c, c152_c] (c89_f 0 c89_z0)

def c148_a : Pat := ⟨[ag [sv 0, sv 1]], [], 2, 0⟩
def c148_z0 : Pat := ⟨[ag [sv 0, sv 1]], [], 2, 0⟩
def c148_T0 (j : Nat) : Tr Lf := .t (.bin .eql) [sv 0, nv 9223372036854775807] (.x) (rv j 0 ⟨[sv 0, sv 1], [], [], [], true⟩)
def c148_f (j : Nat) (z : Pat) : CFn := ⟨148, c148_a, z, [⟨none, numA 0 c148_a.vs, c148_a.mem, 2, 0, c148_T0 j⟩], 0⟩
noncomputable def c148_c := mk [] (c148_f 0 c148_z0)

def c147_a : Pat := ⟨[sv 0, sv 1], [], 2, 0⟩
def c147_z0 : Pat := ⟨[sv 0], [], 1, 0⟩
def c147_T0 (j : Nat) : Tr Lf := .t (.bin .neq) [sv 0, sv 0] (.x) (.t (.bin .neq) [sv 1, sv 1] (.x) (.t (.bin .lss) [sv 0, sv 1] (rv j 0 ⟨[nv 0], [], [], [], true⟩) (.t (.bin .gtr) [sv 0, sv 1] (rv j 0 ⟨[iv 1], [], [], [], true⟩) (rv j 0 ⟨[iv 0], [], [], [], true⟩))))
def c147_f (j : Nat) (z : Pat) : CFn := ⟨147, c147_a, z, [⟨none, numA 0 c147_a.vs, c147_a.mem, 2, 0, c147_T0 j⟩], 0⟩
noncomputable def c147_c := mk [] (c147_f 0 c147_z0)

def c310_a : Pat := ⟨[.slice (some ⟨1, 0, none⟩) 2 2], [.cells (svs 0 4)], 4, 0⟩
def c310_z0 : Pat := ⟨[.slice (some ⟨2, 0, none⟩) 2 2, sv 6], [.cells (svs 0 4), .cells [sv 4, sv 5]], 7, 0⟩
def c310_T0 (j : Nat) : Tr Lf := .c 0 ⟨[sv 0, sv 1], [], [], [], true⟩ (.c 0 ⟨[sv 2, sv 3], [], [], [], true⟩ (.t .truth [sv 5] (.x) (rv j 0 ⟨(svs 0 5 ++ [sv 6, sv 7]), [], [.same 1, .same 2], [], true⟩)))
def c310_f (j : Nat) (z : Pat) : CFn := ⟨310, c310_a, z, [⟨none, numA 0 c310_a.vs, c310_a.mem, 4, 0, c310_T0 j⟩], 0⟩
noncomputable def c310_c := mk [c148_c] (c310_f 0 c310_z0)

def c311_a : Pat := ⟨[sv 0, sv 1, .slice (some ⟨1, 1, none⟩) 1 1], [.cells [sv 2, sv 3]], 4, 0⟩
def c311_z0 : Pat := ⟨[sv 2], [.cells [sv 0, sv 1]], 3, 0⟩
def c311_T0 (j : Nat) : Tr Lf := .c 0 ⟨[sv 3, sv 1], [], [], [], true⟩ (.d (.bin .mul) [sv 4, sv 0] (.t (.bin .lss) [sv 5, iv 0] (rv j 0 ⟨[sv 2, sv 3, sv 3], [], [.same 1], [], true⟩) (rv j 0 ⟨[sv 2, sv 3, sv 1], [], [.same 1], [], true⟩)))
def c311_f (j : Nat) (z : Pat) : CFn := ⟨311, c311_a, z, [⟨none, numA 0 c311_a.vs, c311_a.mem, 4, 0, c311_T0 j⟩], 0⟩
noncomputable def c311_c := mk [c147_c] (c311_f 0 c311_z0)

def c236_a : Pat := ⟨[sv 0, .slice (some ⟨1, 0, none⟩) 2 2], [.cells (svs 1 4)], 5, 0⟩
def c236_z0 : Pat := ⟨[ag [sv 4, sv 5]], [.cells (svs 0 4)], 6, 0⟩
def c236_T0 (j : Nat) : Tr Lf := .c 0 ⟨(svs 1 4), [], [.same 1], [], true⟩ (.c 1 ⟨[sv 0, sv 9, sv 9, sv 10], [], [.same 3], [], true⟩ (rv j 0 ⟨(svs 5 4 ++ [sv 14, sv 11]), [], [.same 1], [], true⟩))
def c236_f (j : Nat) (z : Pat) : CFn := ⟨236, c236_a, z, [⟨none, numA 0 c236_a.vs, c236_a.mem, 5, 0, c236_T0 j⟩], 0⟩
noncomputable def c236_c := mk [c310_c, c311_c] (c236_f 0 c236_z0)

def c90_a : Pat := ⟨[sv 0, .slice (some ⟨1, 0, none⟩) 1 1], [.cells (svs 1 4)], 5, 0⟩
def c90_z0 : Pat := ⟨[tt], [.cells (svs 0 4)], 5, 0⟩
def c90_T0 (j : Nat) : Tr Lf := .c 0 ⟨[sv 1, sv 2], [], [], [], true⟩ (.d (.un .neg) [sv 5] (.d (.mm true) [sv 5, sv 7] (.c 0 ⟨[sv 3, sv 4], [], [], [], true⟩ (.d (.un .neg) [sv 9] (.d (.mm true) [sv 9, sv 11] (.c 1 ⟨[nv 0, sv 8, sv 6, sv 12, sv 10], [], [.same 7], [], true⟩ (.t .truth [sv 18] (.x) (.d (.bin .shl) [sv 0, .int .u64 (.ofNat 32)] (.t (.bin .gtr) [sv 17, sv 19] (.x) (rv j 0 ⟨(svs 1 4 ++ [tt]), [], [.same 1], [], true⟩))))))))))
def c90_f (j : Nat) (z : Pat) : CFn := ⟨90, c90_a, z, [⟨none, numA 0 c90_a.vs, c90_a.mem, 5, 0, c90_T0 j⟩], 0⟩
noncomputable def c90_c := mk [c148_c, c236_c] (c90_f 0 c90_z0)

def c61_a : Pat := ⟨[ag (svs 0 8)], [], 8, 0⟩
def c61_z0 : Pat := ⟨[iv 0], [], 1, 0⟩
def c61_T0 (j : Nat) : Tr Lf := .c 0 ⟨[iv 1, iv 1024], [], [], [], true⟩ (.c 1 ⟨[sv 4, sv 5], [], [], [], true⟩ (.c 1 ⟨[sv 8, sv 9], [], [], [], true⟩ (.c 2 ⟨[sv 10, sv 12], [], [], [], true⟩ (.t (.bin .geq) [sv 14, iv 0] (.c 0 ⟨[iv 1, iv 8], [], [], [], true⟩ (.c 1 ⟨[sv 15, sv 16], [], [], [], true⟩ (.c 2 ⟨[sv 10, sv 17], [], [], [], true⟩ (.t (.bin .leq) [sv 19, iv 0] (.d (.un .not) [sv 5] (.d (.un .not) [sv 20] (.t .truth [sv 21] (.x) (.c 3 ⟨([iv 64] ++ svs 0 4), [], [.same 6], [], true⟩ (.t (.bin .lss) [sv 6, iv 1] (.x) (.t (.bin .gtr) [sv 6, iv 64] (.x) (.t (.bin .lss) [sv 7, iv 1] (.x) (.t (.bin .gtr) [sv 7, iv 16] (.x) (rv j 0 ⟨[iv 0], [], [], [], true⟩))))))))) (.x))))) (.x)))))
def c61_f (j : Nat) (z : Pat) : CFn := ⟨61, c61_a, z, [⟨none, numA 0 c61_a.vs, c61_a.mem, 8, 0, c61_T0 j⟩], 0⟩
noncomputable def c61_c := mk [c89_c, c148_c, c147_c, c90_c] (c61_f 0 c61_z0)

def c91_a : Pat := ⟨[sv 0], [], 1, 0⟩
def c91_z0 : Pat := ⟨[pp 1, iv 0], [.cells [.int .u64 (.ofNat 0), .chan (some 2)], .lst false 1 0], 2, 1⟩
def c91_T0 (j : Nat) : Tr Lf := .t (.bin .lss) [sv 0, iv 1] (.x) (.t (.bin .gtr) [sv 0, iv 64] (.x) (.t (.bin .leq) [sv 0, iv 1048576] (.e .rep [sv 0, iv 0] (rv j 0 ⟨[.int .u64 (.ofNat 0), iv 0], [(fv 0, 1)], [.same 2, .same 1], [], true⟩)) (.x)))
def c91_f (j : Nat) (z : Pat) : CFn := ⟨91, c91_a, z, [⟨none, numA 0 c91_a.vs, c91_a.mem, 1, 0, c91_T0 j⟩], 0⟩
noncomputable def c91_c := mkf [] (c91_f 0 c91_z0)

def c62_a : Pat := ⟨[ag (svs 0 8)], [], 8, 0⟩
def c62_z0 : Pat := ⟨[pp 1, iv 0], [.cells [pp 2], .cells ([pp 3, pp 5] ++ svs 1 8 ++ [.chan (some 7), nlS, iv 0, iv 0]), .cells [.int .u64 (.ofNat 0), .chan (some 4)], .lst false 1 0, .cells [.map (some 6)], .mp 4 1, .lst false 27 2], 12, 3⟩
def c62_T0 (j : Nat) : Tr Lf := .c 0 ⟨(svs 0 8), [], [], [], true⟩ (.c 1 ⟨[sv 6], [], [], [], true⟩ (.t (.bin .leq) [sv 6, iv 1048576] (.e .rep ([sv 6] ++ rp 4 (iv 0) ++ [nlS, iv 0, ff, iv 0, ff, iv 0, ff, iv 0, ff, iv 0, ff, iv 0, ff, iv 0, ff, iv 0, ff, iv 0, ff, iv 0, ff, ff, iv 0]) (rv j 0 ⟨([.int .u64 (.ofNat 0)] ++ svs 0 8 ++ [iv 0, iv 0, iv 0]), [(fv 0, 1), (nlS, 5), (fv 1, 27)], [.same 9, .same 8, .same 2, .same 3, .same 6, .same 5, .same 7], [], true⟩)) (.x)))
def c62_f (j : Nat) (z : Pat) : CFn := ⟨62, c62_a, z, [⟨none, numA 0 c62_a.vs, c62_a.mem, 8, 0, c62_T0 j⟩], 0⟩
noncomputable def c62_c := mkf [c61_c, c91_c] (c62_f 0 c62_z0)

def c7_3_a : Pat := ⟨[ag [iv 0, ff, sv 0, ff, iv 67108864, ff, sv 1, sv 2, iv 1, sv 3, sv 4]], [], 5, 0⟩
def c7_3_z0 : Pat := ⟨[pp 1, iv 0], [.cells [iv 0, ff, sv 0, ff, iv 67108864, ff, sv 1, sv 2, iv 1, sv 3, sv 4, pp 2, .map (some 11), nlS, iv 0, iv 0], .cells [pp 3], k33, .cells [pp 5], k10, k22, .lst false 1 0, .cells [.map (some 9)], .mp 4 1, .lst false 27 2, .map [] 0], 13, 3⟩
def c7_3_T0 (j : Nat) : Tr Lf := .c 0 ⟨[iv 0, ff, sv 0, ff, iv 67108864, ff, sv 1, sv 2], [], [], [], true⟩ (.t (.bin .lss) [sv 3, iv 1] (.x) (.t (.bin .gtr) [sv 3, iv 64] (.x) (.t (.bin .lss) [sv 4, iv 1] (.x) (.t (.bin .gtr) [sv 4, iv 65536] (.x) (.c 1 ⟨[iv 0, ff, sv 0, ff, iv 67108864, ff, sv 1, sv 2], [], [], [], true⟩ (rv j 0 ⟨(svs 0 5 ++ svs 7 8), [(fv 0, 1), (fv 1, 5), (fv 2, 27)], ([.same 14, .same 12, .same 11] ++ sm 4 7 ++ [.same 13]), [], true⟩))))))
def c7_3_f (j : Nat) (z : Pat) : CFn := ⟨7, c7_3_a, z, [⟨none, numA 0 c7_3_a.vs, c7_3_a.mem, 5, 0, c7_3_T0 j⟩], 0⟩
noncomputable def c7_3_c := mkf [c61_c, c62_c] (c7_3_f 0 c7_3_z0)

def c7_2_a : Pat := ⟨[ag [iv 0, ff, sv 0, ff, iv 67108864, ff, sv 1, sv 2, iv 2, sv 3, sv 4]], [], 5, 0⟩
def c7_2_z0 : Pat := ⟨[pp 1, iv 0], [.cells [iv 0, ff, sv 0, ff, iv 67108864, ff, sv 1, sv 2, iv 2, sv 3, sv 4, pp 2, .map (some 11), nlS, iv 0, iv 0], .cells [pp 3], k33, .cells [pp 5], k10, k22, .lst false 1 0, .cells [.map (some 9)], .mp 4 1, .lst false 27 2, .map [] 0], 13, 3⟩
def c7_2_T0 (j : Nat) : Tr Lf := .c 0 ⟨[iv 0, ff, sv 0, ff, iv 67108864, ff, sv 1, sv 2], [], [], [], true⟩ (.t (.bin .lss) [sv 3, iv 1] (.x) (.t (.bin .gtr) [sv 3, iv 64] (.x) (.t (.bin .lss) [sv 4, iv 1] (.x) (.t (.bin .gtr) [sv 4, iv 65536] (.x) (.c 1 ⟨[iv 0, ff, sv 0, ff, iv 67108864, ff, sv 1, sv 2], [], [], [], true⟩ (rv j 0 ⟨(svs 0 5 ++ svs 7 8), [(fv 0, 1), (fv 1, 5), (fv 2, 27)], ([.same 14, .same 12, .same 11] ++ sm 4 7 ++ [.same 13]), [], true⟩))))))
def c7_2_f (j : Nat) (z : Pat) : CFn := ⟨7, c7_2_a, z, [⟨none, numA 0 c7_2_a.vs, c7_2_a.mem, 5, 0, c7_2_T0 j⟩], 0⟩
noncomputable def c7_2_c := mkf [c61_c, c62_c] (c7_2_f 0 c7_2_z0)

def c7_1_a : Pat := ⟨[ag [iv 0, ff, sv 0, ff, iv 67108864, ff, sv 1, sv 2, iv 3, sv 3, sv 4]], [], 5, 0⟩
def c7_1_z0 : Pat := ⟨[pp 1, iv 0], [.cells [iv 0, ff, sv 0, ff, iv 67108864, ff, sv 1, sv 2, iv 3, sv 3, sv 4, pp 2, .map (some 11), nlS, iv 0, iv 0], .cells [pp 3], k33, .cells [pp 5], k10, k22, .lst false 1 0, .cells [.map (some 9)], .mp 4 1, .lst false 27 2, .map [] 0], 13, 3⟩
def c7_1_T0 (j : Nat) : Tr Lf := .c 0 ⟨[iv 0, ff, sv 0, ff, iv 67108864, ff, sv 1, sv 2], [], [], [], true⟩ (.t (.bin .lss) [sv 3, iv 1] (.x) (.t (.bin .gtr) [sv 3, iv 64] (.x) (.t (.bin .lss) [sv 4, iv 1] (.x) (.t (.bin .gtr) [sv 4, iv 65536] (.x) (.c 1 ⟨[iv 0, ff, sv 0, ff, iv 67108864, ff, sv 1, sv 2], [], [], [], true⟩ (rv j 0 ⟨(svs 0 5 ++ svs 7 8), [(fv 0, 1), (fv 1, 5), (fv 2, 27)], ([.same 14, .same 12, .same 11] ++ sm 4 7 ++ [.same 13]), [], true⟩))))))
def c7_1_f (j : Nat) (z : Pat) : CFn := ⟨7, c7_1_a, z, [⟨none, numA 0 c7_1_a.vs, c7_1_a.mem, 5, 0, c7_1_T0 j⟩], 0⟩
noncomputable def c7_1_c := mkf [c61_c, c62_c] (c7_1_f 0 c7_1_z0)

def c7_a : Pat := ⟨[ag [iv 0, ff, sv 0, ff, iv 67108864, ff, sv 1, sv 2, iv 4, sv 3, sv 4]], [], 5, 0⟩
def c7_z0 : Pat := ⟨[pp 1, iv 0], [.cells [iv 0, ff, sv 0, ff, iv 67108864, ff, sv 1, sv 2, iv 4, sv 3, sv 4, pp 2, .map (some 11), nlS, iv 0, iv 0], .cells [pp 3], k33, .cells [pp 5], k10, k22, .lst false 1 0, .cells [.map (some 9)], .mp 4 1, .lst false 27 2, .map [] 0], 13, 3⟩
def c7_T0 (j : Nat) : Tr Lf := .c 0 ⟨[iv 0, ff, sv 0, ff, iv 67108864, ff, sv 1, sv 2], [], [], [], true⟩ (.t (.bin .lss) [sv 3, iv 1] (.x) (.t (.bin .gtr) [sv 3, iv 64] (.x) (.t (.bin .lss) [sv 4, iv 1] (.x) (.t (.bin .gtr) [sv 4, iv 65536] (.x) (.c 1 ⟨[iv 0, ff, sv 0, ff, iv 67108864, ff, sv 1, sv 2], [], [], [], true⟩ (rv j 0 ⟨(svs 0 5 ++ svs 7 8), [(fv 0, 1), (fv 1, 5), (fv 2, 27)], ([.same 14, .same 12, .same 11] ++ sm 4 7 ++ [.same 13]), [], true⟩))))))
def c7_f (j : Nat) (z : Pat) : CFn := ⟨7, c7_a, z, [⟨none, numA 0 c7_a.vs, c7_a.mem, 5, 0, c7_T0 j⟩], 0⟩
noncomputable def c7_c := mkf [c61_c, c62_c] (c7_f 0 c7_z0)

def c162_a : Pat := ⟨[fv 0], [], 0, 1⟩
def c162_z0 : Pat := ⟨[.chan (some 1)], [.lst false 1 0], 0, 1⟩
def c162_T0 (j : Nat) : Tr Lf := .u .nil [fv 0] (.x) (.e (.lit 1) [] (.e (.cat 1) [fv 1, fv 0] (rv j 0 ⟨[], [(fv 2, 1)], [.same 2], [], true⟩)))
def c162_f (j : Nat) (z : Pat) : CFn := ⟨162, c162_a, z, [⟨none, numA 0 c162_a.vs, c162_a.mem, 0, 1, c162_T0 j⟩], 0⟩
noncomputable def c162_c := mkf [] (c162_f 0 c162_z0)

def c97_a : Pat := ⟨[pp 1], [.cells [sv 0, .chan (some 2)], .lst false 1 0], 1, 1⟩
def c97_z0 : Pat := ⟨[pp 3], [.cells [sv 0, .chan (some 2)], .lst false 1 0, .cells [sv 1, .chan (some 4)], .lst false 1 1], 2, 2⟩
def c97_T0 (j : Nat) : Tr Lf := .e .len [fv 0] (.t (.bin .eql) [sv 1, iv 0] (.x) (.c 0 ⟨[], [(fv 0, 1)], [], [], true⟩ (rv j 0 ⟨[sv 0, sv 0], [(fv 0, 1), (fv 1, 1)], [.same 1, .same 2, .same 4, .same 3], [], true⟩)))
def c97_f (j : Nat) (z : Pat) : CFn := ⟨97, c97_a, z, [⟨none, numA 0 c97_a.vs, c97_a.mem, 1, 1, c97_T0 j⟩], 0⟩
noncomputable def c97_c := mkf [c162_c] (c97_f 0 c97_z0)

def c164_a : Pat := ⟨[.map (some 1)], [.mp 4 0], 0, 1⟩
def c164_z0 : Pat := ⟨[.map (some 2)], [.mp 4 0, .mp 4 1], 0, 2⟩
def c164_T0 (j : Nat) : Tr Lf := rv j 0 ⟨[], [(fv 0, 5), (fv 0, 5)], [.same 1, .same 2], [], true⟩
def c164_f (j : Nat) (z : Pat) : CFn := ⟨164, c164_a, z, [⟨none, numA 0 c164_a.vs, c164_a.mem, 0, 1, c164_T0 j⟩], 0⟩
noncomputable def c164_c := mkf [] (c164_f 0 c164_z0)

def c98_a : Pat := ⟨[pp 1], [.cells [.map (some 2)], .mp 4 0], 0, 1⟩
def c98_z0 : Pat := ⟨[pp 3], [.cells [.map (some 2)], .mp 4 0, .cells [.map (some 4)], .mp 4 1], 0, 2⟩
def c98_T0 (j : Nat) : Tr Lf := .c 0 ⟨[], [(fv 0, 5)], [.same 2], [], true⟩ (rv j 0 ⟨[], [(fv 1, 5), (fv 2, 5)], [.same 1, .same 2, .same 4, .same 3], [], true⟩)
def c98_f (j : Nat) (z : Pat) : CFn := ⟨98, c98_a, z, [⟨none, numA 0 c98_a.vs, c98_a.mem, 0, 1, c98_T0 j⟩], 0⟩
noncomputable def c98_c := mkf [c164_c] (c98_f 0 c98_z0)

def c165_a : Pat := ⟨[ag (svs 0 4 ++ [fv 0])], [], 4, 1⟩
def c165_z0 : Pat := ⟨[ag (svs 0 4 ++ [fv 0])], [], 4, 1⟩
def c165_T0 (j : Nat) : Tr Lf := .e (.cat 2) [nlS, fv 0] (rv j 0 ⟨(svs 0 4), [(fv 1, 2)], [], [], true⟩)
def c165_f (j : Nat) (z : Pat) : CFn := ⟨165, c165_a, z, [⟨none, numA 0 c165_a.vs, c165_a.mem, 4, 1, c165_T0 j⟩], 0⟩
noncomputable def c165_c := mkf [] (c165_f 0 c165_z0)

def c99_a : Pat := ⟨[ag (svs 0 4 ++ [fv 0] ++ svs 4 22)], [], 26, 1⟩
def c99_z0 : Pat := ⟨[ag (svs 0 4 ++ [fv 0] ++ svs 4 22)], [], 26, 1⟩
def c99_T0 (j : Nat) : Tr Lf := .c 0 ⟨(svs 0 4), [(fv 0, 2)], [], [], false⟩ (rv j 0 ⟨(svs 26 4 ++ svs 4 22), [(fv 1, 2)], [], [], true⟩)
def c99_f (j : Nat) (z : Pat) : CFn := ⟨99, c99_a, z, [⟨none, numA 0 c99_a.vs, c99_a.mem, 26, 1, c99_T0 j⟩], 0⟩
noncomputable def c99_c := mkf [c165_c] (c99_f 0 c99_z0)

def c100_a : Pat := ⟨[nlS], [], 0, 0⟩
def c100_z0 : Pat := ⟨[.chan (some 1)], [.lst false 16 0], 0, 1⟩
def c100_T0 (j : Nat) : Tr Lf := rv j 0 ⟨[], [(nlS, 16)], [.nil], [], true⟩
def c100_f (j : Nat) (z : Pat) : CFn := ⟨100, c100_a, z, [⟨none, numA 0 c100_a.vs, c100_a.mem, 0, 0, c100_T0 j⟩], 0⟩
noncomputable def c100_c := mkf [] (c100_f 0 c100_z0)

def c66_a : Pat := ⟨[pp 1], [.cells [pp 2], k11, .cells [sv 0, .chan (some 4)], .lst false 1 0, .cells [.map (some 6)], .mp 4 1, .lst false 27 2], 11, 3⟩
def c66_z0 : Pat := ⟨[pp 8], [.cells [pp 2], k11, .cells [sv 0, .chan (some 4)], .lst false 1 0, .cells [.map (some 6)], .mp 4 1, .lst false 27 2, .cells [pp 9], .cells ([pp 10, pp 12] ++ svs 12 8 ++ [.chan (some 14), .chan (some 15), sv 20, sv 21]), .cells [sv 11, .chan (some 11)], .lst false 1 3, .cells [.map (some 13)], .mp 4 4, .lst false 27 5, .lst false 16 6], 22, 7⟩
def c66_T0 (j : Nat) : Tr Lf := .c 0 ⟨[sv 0], [(fv 0, 1)], [.same 3, .same 4], [], true⟩ (.c 1 ⟨[], [(fv 1, 5)], [.same 5, .same 6], [], true⟩ (.e .len [fv 2] (.t (.bin .leq) [sv 13, iv 1048576] (.e .rep ([sv 13] ++ rp 4 (iv 0) ++ [nlS, iv 0, ff, iv 0, ff, iv 0, ff, iv 0, ff, iv 0, ff, iv 0, ff, iv 0, ff, iv 0, ff, iv 0, ff, iv 0, ff, ff, iv 0]) (.lf (.go 1 ⟨([sv 11] ++ svs 1 10 ++ [sv 12] ++ svs 1 10 ++ [sv 13, iv 0]), [(fv 3, 1), (fv 5, 5), (fv 2, 27), (fv 4, 1), (fv 6, 5), (fv 7, 27)], (sm 1 13), [], true⟩))) (.x))))
def c66_T1 (j : Nat) : Tr Lf := .t (.bin .lss) [sv 23, sv 22] (.e (.iad 27) [fv 2, sv 23] (.l 6 [true, true, true, true, false, true, true, true, true, true, true, true, true, true, true, true, true, true, true, true, true, true, true, true, true, true, true] (.c 2 ⟨(svs 24 26), [(fv 7, 2)], [], [], false⟩ (.e (.iad 27) [fv 5, sv 23] (.e (.set 27 0) ([fv 5, sv 23] ++ svs 50 4 ++ [fv 8] ++ svs 54 22) (.d (.bin .add) [sv 23, iv 1] (.lf (.go 1 ⟨(svs 0 23 ++ [sv 76]), [(fv 0, 1), (fv 1, 5), (fv 2, 27), (fv 3, 1), (fv 4, 5), (fv 10, 27)], (sm 1 13), [], true⟩)))))))) (.c 3 ⟨[], [], [], [], true⟩ (rv j 0 ⟨(svs 0 22), [(fv 0, 1), (fv 1, 5), (fv 2, 27), (fv 3, 1), (fv 4, 5), (fv 5, 27), (fv 6, 16)], (sm 1 7 ++ [.same 15] ++ sm 8 7), [], true⟩))
def c66_f (j : Nat) (z : Pat) : CFn := ⟨66, c66_a, z, [⟨none, numA 0 c66_a.vs, c66_a.mem, 11, 3, c66_T0 j⟩, ⟨(some [1, 1, 1, 1, 1, 0, 1, 0]), [(0, pp 1), (3, pp 8), (38, .chan (some 7)), (39, sv 22), (40, sv 23)], [.cells [pp 2], k11, .cells [sv 0, .chan (some 4)], .lst false 1 0, .cells [.map (some 6)], .mp 4 1, .lst false 27 2, .cells ([pp 9, pp 11] ++ svs 12 8 ++ [.chan (some 13), nlS, sv 20, sv 21]), .cells [sv 11, .chan (some 10)], .lst false 1 3, .cells [.map (some 12)], .mp 4 4, .lst false 27 5], 24, 6, c66_T1 j⟩], 0⟩
noncomputable def c66_c := mkf [c97_c, c98_c, c99_c, c100_c] (c66_f 0 c66_z0)

def c67_a : Pat := ⟨[nlS], [], 0, 0⟩
def c67_z0 : Pat := ⟨[.chan (some 1)], [.lst false 4 0], 0, 1⟩
def c67_T0 (j : Nat) : Tr Lf := rv j 0 ⟨[], [(nlS, 4)], [.nil], [], true⟩
def c67_f (j : Nat) (z : Pat) : CFn := ⟨67, c67_a, z, [⟨none, numA 0 c67_a.vs, c67_a.mem, 0, 0, c67_T0 j⟩], 0⟩
noncomputable def c67_c := mkf [] (c67_f 0 c67_z0)
end Go.Proofs.YtgddinljekkhdaaGreat.U
