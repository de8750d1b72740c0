/- Contracts of the functions that the law reaches, by cases that its setups reach. -/
import Derived.Test.YtgddinljekkhdaaGreatXA
set_option linter.unusedSimpArgs false
set_option linter.unusedVariables false
namespace Go.Proofs.YtgddinljekkhdaaGreat.U
open Go Go.Eng
set_option maxRecDepth 100000
def c297_a : Pat := ⟨[fv 0], [], 0, 1⟩
def c297_z0 : Pat := ⟨[.slice (some ⟨1, 0, none⟩) 1 1], [.cells [pp 2], k81], 26, 1⟩
def c297_T0 (j : Nat) : Tr Lf := .e .len [fv 0] (.t .eqi [sv 0, iv 0] (.x) (.t .eqi [sv 0, iv 1] (.t (.bin .lss) [iv 0, sv 0] (.e (.iad 27) [fv 0, iv 0] (.l 1 [true, true, true, true, false, true, true, true, true, true, true, true, true, true, true, true, true, true, true, true, true, true, true, true, true, true, true] (.c 0 ⟨(svs 1 26), [(fv 2, 2)], [], [], false⟩ (.t (.bin .lss) [iv 1, sv 0] (.x) (rv j 0 ⟨(svs 27 26), [(fv 3, 2)], [.same 1, .same 4], [], true⟩))))) (.x)) (.x)))
def c297_f (j : Nat) (z : Pat) : CFn := ⟨297, c297_a, z, [⟨none, numA 0 c297_a.vs, c297_a.mem, 0, 1, c297_T0 j⟩], 0⟩
noncomputable def c297_c := mkf [c99_c] (c297_f 0 c297_z0)

def c302_a : Pat := ⟨[.slice (some ⟨1, 0, none⟩) 1 1], [.cells [pp 2], k81], 26, 1⟩
def c302_z0 : Pat := ⟨[.slice (some ⟨3, 0, none⟩) 1 1], [.cells [pp 2], k81, .cells (svs 26 4 ++ [fv 1] ++ svs 30 22)], 52, 2⟩
def c302_T0 (j : Nat) : Tr Lf := rv j 0 ⟨(svs 0 26 ++ svs 0 26), [(fv 0, 2), (fv 0, 2)], (sm 1 3), [], true⟩
def c302_f (j : Nat) (z : Pat) : CFn := ⟨302, c302_a, z, [⟨none, numA 0 c302_a.vs, c302_a.mem, 26, 1, c302_T0 j⟩], 0⟩
noncomputable def c302_c := mkf [] (c302_f 0 c302_z0)

def c230_a : Pat := ⟨[fv 0, nlS, .slice (some ⟨1, 0, none⟩) 0 0, sv 0, ag [sv 1, sv 2]], [.cells []], 3, 1⟩
def c230_z0 : Pat := ⟨[.slice (some ⟨2, 0, none⟩) 1 1, .slice (some ⟨3, 0, none⟩) 0 0], [.cells [], k81, .cells []], 26, 1⟩
def c230_T0 (j : Nat) : Tr Lf := .c 0 ⟨[], [(fv 0, 27)], [], [], false⟩ (.d (.mm false) [sv 0, iv 16] (.d (.mm true) [iv 0, sv 29] (.t (.bin .lss) [iv 0, sv 30] (.t .eqi [sv 30, iv 1] (.t (.bin .lss) [iv 1, sv 30] (.x) (.c 1 ⟨(svs 3 26), [(fv 1, 2)], [.same 3, .same 4], [], false⟩ (rv j 0 ⟨(svs 57 26), [(fv 3, 2)], [.same 1, .same 6, .same 5], [], true⟩))) (.t .eqi [sv 30, iv 2] (.t (.bin .lss) [iv 1, sv 30] (.t (.bin .lss) [iv 2, sv 30] (.x) (.c 1 ⟨(svs 3 26), [(fv 1, 2)], [.same 3, .same 4], [], false⟩ (rv j 0 ⟨(svs 57 26), [(fv 3, 2)], [.same 1, .same 6, .same 5], [], true⟩))) (.x)) (.t .eqi [sv 30, iv 3] (.t (.bin .lss) [iv 1, sv 30] (.t (.bin .lss) [iv 2, sv 30] (.t (.bin .lss) [iv 3, sv 30] (.x) (.c 1 ⟨(svs 3 26), [(fv 1, 2)], [.same 3, .same 4], [], false⟩ (rv j 0 ⟨(svs 57 26), [(fv 3, 2)], [.same 1, .same 6, .same 5], [], true⟩))) (.x)) (.x)) (.t .eqi [sv 30, iv 4] (.t (.bin .lss) [iv 1, sv 30] (.t (.bin .lss) [iv 2, sv 30] (.t (.bin .lss) [iv 3, sv 30] (.t (.bin .lss) [iv 4, sv 30] (.x) (.c 1 ⟨(svs 3 26), [(fv 1, 2)], [.same 3, .same 4], [], false⟩ (rv j 0 ⟨(svs 57 26), [(fv 3, 2)], [.same 1, .same 6, .same 5], [], true⟩))) (.x)) (.x)) (.x)) (.x))))) (.x))))
def c230_f (j : Nat) (z : Pat) : CFn := ⟨230, c230_a, z, [⟨none, numA 0 c230_a.vs, c230_a.mem, 3, 1, c230_T0 j⟩], 0⟩
noncomputable def c230_c := mkf [c297_c, c302_c] (c230_f 0 c230_z0)

def c145_a : Pat := ⟨[pp 1], [.cells [pp 2, .chan (some 8), nlS], k44, .cells [sv 0, .chan (some 4)], .lst false 1 0, .cells [.map (some 6)], .mp 4 1, .lst false 27 2, .lst false 1 3], 11, 4⟩
def c145_z0 : Pat := ⟨[], [.cells [pp 2, .chan (some 8), nlS], k44, .cells [sv 0, .chan (some 4)], .lst false 1 0, .cells [.map (some 6)], .mp 4 1, .lst false 27 2, .lst false 1 3], 11, 4⟩
def c145_T0 (j : Nat) : Tr Lf := .e .len [fv 3] (.t (.bin .leq) [sv 11, iv 1048576] (.e .rep ([sv 11] ++ rp 4 (iv 0) ++ [nlS, iv 0, ff, iv 0, ff, iv 0, ff, iv 0, ff, iv 0, ff, iv 0, ff, iv 0, ff, iv 0, ff, iv 0, ff, iv 0, ff, ff, iv 0]) (.lf (.go 1 ⟨(svs 0 12 ++ [iv 0]), [(fv 0, 1), (fv 1, 5), (fv 2, 27), (fv 3, 1), (fv 4, 27)], (sm 1 9), [], true⟩))) (.x))
def c145_T1 (j : Nat) : Tr Lf := .t (.bin .lss) [sv 12, sv 11] (.e (.iad 1) [fv 3, sv 12] (.l 5 [true] (.e (.iad 27) [fv 2, sv 13] (.l 6 [true, true, true, true, false, true, true, true, true, true, true, true, true, true, true, true, true, true, true, true, true, true, true, true, true, true, true] (.e (.iad 27) [fv 4, sv 12] (.e (.set 27 0) ([fv 4, sv 12] ++ svs 14 4 ++ [fv 7] ++ svs 18 22) (.d (.bin .add) [sv 12, iv 1] (.lf (.go 1 ⟨(svs 0 12 ++ [sv 40]), [(fv 0, 1), (fv 1, 5), (fv 2, 27), (fv 3, 1), (fv 9, 27)], (sm 1 9), [], true⟩))))))))) (.lf (.go 2 ⟨(svs 0 11 ++ [iv 0, iv 0]), [(fv 0, 1), (fv 1, 5), (fv 2, 27), (fv 3, 1), (fv 4, 27)], (sm 1 10), [], true⟩))
def c145_T2 (j : Nat) : Tr Lf := .t (.bin .lss) [sv 12, sv 11] (.x) (.c 0 ⟨[sv 8, sv 5, sv 6], [(fv 4, 27)], [.same 10], [9], false⟩ (.e .len [fv 3] (.lf (.go 3 ⟨(svs 0 11 ++ svs 13 27 ++ [iv 0]), [(fv 0, 1), (fv 1, 5), (fv 2, 27), (fv 3, 1), (fv 5, 2)], (sm 1 8 ++ [.same 11]), [], true⟩))))
def c145_T3 (j : Nat) : Tr Lf := .t (.bin .lss) [sv 38, sv 37] (.e (.iad 1) [fv 3, sv 38] (.l 5 [true] (.t .eqi [sv 38, iv 0] (.e (.iad 27) [fv 2, sv 39] (.e (.set 27 0) ([fv 2, sv 39] ++ svs 11 4 ++ [fv 4] ++ svs 15 22) (.d (.bin .add) [sv 38, iv 1] (.lf (.go 3 ⟨(svs 0 38 ++ [sv 40]), [(fv 0, 1), (fv 1, 5), (fv 7, 27), (fv 3, 1), (fv 4, 2)], (sm 1 9), [], true⟩))))) (.x)))) (rv j 0 ⟨(svs 0 11), [(fv 0, 1), (fv 1, 5), (fv 2, 27), (fv 3, 1)], (sm 1 8), [], true⟩)
def c145_f (j : Nat) (z : Pat) : CFn := ⟨145, c145_a, z, [⟨none, numA 0 c145_a.vs, c145_a.mem, 11, 4, c145_T0 j⟩, ⟨(some [1, 0, 1, 0]), [(0, pp 1), (2, .chan (some 9)), (19, .chan (some 8)), (20, sv 11), (21, sv 12)], [.cells [pp 2, .chan (some 8), nlS], k44, .cells [sv 0, .chan (some 4)], .lst false 1 0, .cells [.map (some 6)], .mp 4 1, .lst false 27 2, .lst false 1 3, .lst false 27 4], 13, 5, c145_T1 j⟩, ⟨(some [1, 1, 1, 0, 1, 0]), [(0, pp 1), (2, .chan (some 9)), (5, .slice (some ⟨10, 0, none⟩) 0 0), (55, nlS), (56, sv 11), (57, sv 12)], [.cells [pp 2, .chan (some 8), nlS], k44, .cells [sv 0, .chan (some 4)], .lst false 1 0, .cells [.map (some 6)], .mp 4 1, .lst false 27 2, .lst false 1 3, .lst false 27 4, .cells []], 13, 5, c145_T2 j⟩, ⟨(some [1, 1, 1, 1, 1, 1, 0]), [(0, pp 1), (2, .slice (some ⟨9, 0, none⟩) 1 1), (101, .chan (some 8)), (102, sv 37), (103, sv 38)], [.cells [pp 2, .chan (some 8), nlS], k44, .cells [sv 0, .chan (some 4)], .lst false 1 0, .cells [.map (some 6)], .mp 4 1, .lst false 27 2, .lst false 1 3, .cells (svs 11 4 ++ [fv 4] ++ svs 15 22)], 39, 5, c145_T3 j⟩], 0⟩
noncomputable def c145_c := mkf [c230_c] (c145_f 0 c145_z0)

def c233_a : Pat := ⟨[ag (svs 0 4 ++ [fv 0] ++ svs 4 22), ag [sv 26, sv 27]], [], 28, 1⟩
def c233_z0 : Pat := ⟨[ag (svs 0 4 ++ [fv 0] ++ svs 4 22)], [], 26, 1⟩
def c233_T0 (j : Nat) : Tr Lf := .c 0 ⟨(svs 0 26), [(fv 0, 2)], [], [], false⟩ (.t (.bin .neq) [sv 18, iv 0] (.t .truth [sv 23] (.x) (.t .truth [sv 24] (.x) (.c 1 ⟨[sv 12, sv 13, sv 26, sv 27], [], [], [], true⟩ (.c 1 ⟨[sv 14, sv 15, sv 26, sv 27], [], [], [], true⟩ (.c 2 ⟨(svs 4 4 ++ svs 54 4), [], [.same 11], [], true⟩ (.c 3 ⟨([iv 4096] ++ svs 66 4), [], [.same 13], [], true⟩ (.c 1 ⟨[sv 16, sv 17, sv 26, sv 27], [], [], [], true⟩ (.t (.bin .neq) [sv 75, iv 0] (.x) (rv j 0 ⟨(svs 28 4 ++ svs 66 4 ++ svs 36 18), [(fv 1, 2)], [], [], true⟩))))))))) (.x))
def c233_f (j : Nat) (z : Pat) : CFn := ⟨233, c233_a, z, [⟨none, numA 0 c233_a.vs, c233_a.mem, 28, 1, c233_T0 j⟩], 0⟩
noncomputable def c233_c := mkf [c99_c, c308_c, c272_c, c307_c] (c233_f 0 c233_z0)

def c310_2_a : Pat := ⟨[.slice (some ⟨1, 0, none⟩) 3 3], [.cells (svs 0 6)], 6, 0⟩
def c310_2_z0 : Pat := ⟨[.slice (some ⟨2, 0, none⟩) 3 3, sv 9], [.cells (svs 0 6), .cells (svs 6 3)], 10, 0⟩
def c310_2_T0 (j : Nat) : Tr Lf := .c 0 ⟨[sv 0, sv 1], [], [], [], true⟩ (.c 0 ⟨[sv 2, sv 3], [], [], [], true⟩ (.t .truth [sv 7] (.x) (.c 0 ⟨[sv 4, sv 5], [], [], [], true⟩ (.t .truth [sv 9] (.x) (rv j 0 ⟨(svs 0 7 ++ [sv 8, sv 10, sv 11]), [], [.same 1, .same 2], [], true⟩)))))
def c310_2_f (j : Nat) (z : Pat) : CFn := ⟨310, c310_2_a, z, [⟨none, numA 0 c310_2_a.vs, c310_2_a.mem, 6, 0, c310_2_T0 j⟩], 0⟩
noncomputable def c310_2_c := mk [c148_c] (c310_2_f 0 c310_2_z0)

def c311_1_a : Pat := ⟨[sv 0, sv 1, .slice (some ⟨1, 1, none⟩) 2 2], [.cells (svs 2 3)], 5, 0⟩
def c311_1_z0 : Pat := ⟨[sv 3], [.cells (svs 0 3)], 4, 0⟩
def c311_1_T0 (j : Nat) : Tr Lf := .c 0 ⟨[sv 3, sv 1], [], [], [], true⟩ (.d (.bin .mul) [sv 5, sv 0] (.t (.bin .lss) [sv 6, iv 0] (.c 0 ⟨[sv 4, sv 3], [], [], [], true⟩ (.d (.bin .mul) [sv 7, sv 0] (.t (.bin .lss) [sv 8, iv 0] (.x) (rv j 0 ⟨(svs 2 3 ++ [sv 3]), [], [.same 1], [], true⟩)))) (.c 0 ⟨[sv 4, sv 1], [], [], [], true⟩ (.d (.bin .mul) [sv 7, sv 0] (.t (.bin .lss) [sv 8, iv 0] (.x) (rv j 0 ⟨(svs 2 3 ++ [sv 1]), [], [.same 1], [], true⟩))))))
def c311_1_f (j : Nat) (z : Pat) : CFn := ⟨311, c311_1_a, z, [⟨none, numA 0 c311_1_a.vs, c311_1_a.mem, 5, 0, c311_1_T0 j⟩], 0⟩
noncomputable def c311_1_c := mk [c147_c] (c311_1_f 0 c311_1_z0)

def c236_1_a : Pat := ⟨[sv 0, .slice (some ⟨1, 0, none⟩) 3 3], [.cells (svs 1 6)], 7, 0⟩
def c236_1_z0 : Pat := ⟨[ag [sv 6, sv 7]], [.cells (svs 0 6)], 8, 0⟩
def c236_1_T0 (j : Nat) : Tr Lf := .c 0 ⟨(svs 1 6), [], [.same 1], [], true⟩ (.c 1 ⟨([sv 0, sv 13] ++ svs 13 3), [], [.same 3], [], true⟩ (rv j 0 ⟨(svs 7 6 ++ [sv 20, sv 16]), [], [.same 1], [], true⟩))
def c236_1_f (j : Nat) (z : Pat) : CFn := ⟨236, c236_1_a, z, [⟨none, numA 0 c236_1_a.vs, c236_1_a.mem, 7, 0, c236_1_T0 j⟩], 0⟩
noncomputable def c236_1_c := mk [c310_2_c, c311_1_c] (c236_1_f 0 c236_1_z0)

def c232_a : Pat := ⟨[ag (svs 0 4 ++ [fv 0] ++ svs 4 22)], [], 26, 1⟩
def c232_z0 : Pat := ⟨[ag (svs 0 4 ++ [fv 0] ++ svs 4 22)], [], 26, 1⟩
def c232_T0 (j : Nat) : Tr Lf := .c 0 ⟨(svs 0 26), [(fv 0, 2)], [], [], false⟩ (.t (.bin .neq) [sv 18, iv 0] (.t .truth [sv 23] (.x) (.t .truth [sv 24] (.x) (.c 1 ⟨[sv 12, sv 13], [], [], [], true⟩ (.d (.un .neg) [sv 52] (.d (.mm true) [sv 52, sv 54] (.c 1 ⟨[sv 14, sv 15], [], [], [], true⟩ (.d (.un .neg) [sv 56] (.d (.mm true) [sv 56, sv 58] (.c 1 ⟨[sv 16, sv 17], [], [], [], true⟩ (.d (.un .neg) [sv 60] (.d (.mm true) [sv 60, sv 62] (.c 2 ⟨[nv 0, sv 55, sv 53, sv 59, sv 57, sv 63, sv 61], [], [.same 13], [], true⟩ (.c 3 ⟨[iv 1, iv 16], [], [], [], true⟩ (.c 1 ⟨[sv 70, sv 71], [], [], [], true⟩ (.c 1 ⟨[sv 72, sv 73], [], [], [], true⟩ (.c 4 ⟨[sv 74, sv 76], [], [], [], true⟩ (.t (.bin .gtr) [sv 78, iv 0] (rv j 0 ⟨(svs 26 22 ++ [iv 0] ++ svs 49 3), [(fv 1, 2)], [], [], true⟩) (.d (.mm false) [sv 48, iv 29] (.d (.bin .add) [sv 79, iv 1] (.t (.bin .eql) [sv 80, iv 30] (.x) (rv j 0 ⟨(svs 26 22 ++ [sv 80] ++ svs 49 3), [(fv 1, 2)], [], [], true⟩))))))))))))))))))))) (.x))
def c232_f (j : Nat) (z : Pat) : CFn := ⟨232, c232_a, z, [⟨none, numA 0 c232_a.vs, c232_a.mem, 26, 1, c232_T0 j⟩], 0⟩
noncomputable def c232_c := mkf [c99_c, c148_c, c236_1_c, c89_c, c147_c] (c232_f 0 c232_z0)

def c146_a : Pat := ⟨[pp 1], [.cells [pp 2, .chan (some 8), nlS], k44, .cells [sv 0, .chan (some 4)], .lst false 1 0, .cells [.map (some 6)], .mp 4 1, .lst false 27 2, .lst false 1 3], 11, 4⟩
def c146_z0 : Pat := ⟨[], [.cells [pp 2, .chan (some 8), nlS], k44, .cells [sv 0, .chan (some 4)], .lst false 1 0, .cells [.map (some 6)], .mp 4 1, .lst false 27 2, .lst false 1 3], 11, 4⟩
def c146_T0 (j : Nat) : Tr Lf := .e .len [fv 3] (.lf (.go 1 ⟨(svs 0 12 ++ [iv 0]), [(fv 0, 1), (fv 1, 5), (fv 2, 27), (fv 3, 1)], (sm 1 8), [], true⟩))
def c146_T1 (j : Nat) : Tr Lf := .t (.bin .lss) [sv 12, sv 11] (.e (.iad 1) [fv 3, sv 12] (.l 4 [true] (.e (.iad 27) [fv 2, sv 13] (.l 5 [true, true, true, true, false, true, true, true, true, true, true, true, true, true, true, true, true, true, true, true, true, true, true, true, true, true, true] (.c 0 ⟨(svs 14 26 ++ [sv 5, sv 6]), [(fv 6, 2)], [], [], false⟩ (.c 1 ⟨(svs 40 26), [(fv 7, 2)], [], [], false⟩ (.e (.set 27 0) ([fv 2, sv 13] ++ svs 66 4 ++ [fv 8] ++ svs 70 22) (.c 2 ⟨(svs 66 26), [(fv 8, 2)], [], [], true⟩ (.c 3 ⟨([sv 13] ++ svs 92 4), [(fv 1, 5)], [.same 5, .same 6], [], true⟩ (.t (.bin .eql) [sv 96, iv 9] (.x) (.d (.bin .add) [sv 12, iv 1] (.lf (.go 1 ⟨(svs 0 12 ++ [sv 97]), [(fv 0, 1), (fv 10, 5), (fv 9, 27), (fv 3, 1)], (sm 1 8), [], true⟩))))))))))))) (rv j 0 ⟨(svs 0 11), [(fv 0, 1), (fv 1, 5), (fv 2, 27), (fv 3, 1)], (sm 1 8), [], true⟩)
def c146_f (j : Nat) (z : Pat) : CFn := ⟨146, c146_a, z, [⟨none, numA 0 c146_a.vs, c146_a.mem, 11, 4, c146_T0 j⟩, ⟨(some [1, 0]), [(0, pp 1), (7, .chan (some 8)), (8, sv 11), (9, sv 12)], [.cells [pp 2, .chan (some 8), nlS], k44, .cells [sv 0, .chan (some 4)], .lst false 1 0, .cells [.map (some 6)], .mp 4 1, .lst false 27 2, .lst false 1 3], 13, 4, c146_T1 j⟩], 0⟩
noncomputable def c146_c := mkf [c233_c, c232_c, c303_c, c304_c] (c146_f 0 c146_z0)

def c87_a : Pat := ⟨[pp 1], [.cells [pp 2], k44, .cells [sv 0, .chan (some 4)], .lst false 1 0, .cells [.map (some 6)], .mp 4 1, .lst false 27 2], 11, 3⟩
def c87_z0 : Pat := ⟨[iv 0], [.cells [pp 2], k44, .cells [sv 0, .chan (some 4)], .lst false 1 0, .cells [.map (some 6)], .mp 4 1, .lst false 27 2], 12, 3⟩
def c87_T0 (j : Nat) : Tr Lf := .t (.bin .geq) [sv 9, iv 1099511627776] (.x) (.c 0 ⟨[sv 0], [(fv 0, 1)], [.same 3, .same 4], [], true⟩ (.e .len [fv 4] (.lf (.go 1 ⟨([sv 11] ++ svs 1 10 ++ [sv 12, iv 0]), [(fv 3, 1), (fv 1, 5), (fv 2, 27), (nlS, 1), (fv 4, 2)], (sm 1 8 ++ [.nil, .same 9]), [], true⟩))))
def c87_T1 (j : Nat) : Tr Lf := .t (.bin .lss) [sv 12, sv 11] (.e (.iad 2) [fv 4, sv 12] (.l 5 [true, true] (.e (.app 1) [fv 3, sv 13] (.d (.bin .add) [sv 12, iv 1] (.lf (.go 1 ⟨(svs 0 12 ++ [sv 15]), [(fv 0, 1), (fv 1, 5), (fv 2, 27), (fv 6, 1), (fv 4, 2)], (sm 1 8 ++ [.same 13, .same 10]), [], true⟩)))))) (.c 1 ⟨(svs 0 11), [(fv 0, 1), (fv 1, 5), (fv 2, 27), (fv 3, 1)], ([.same 8] ++ sm 2 6 ++ [.same 9]), [], true⟩ (.c 2 ⟨(svs 13 11), [(fv 5, 1), (fv 6, 5), (fv 7, 27), (fv 8, 1)], ([.same 8] ++ sm 2 6 ++ [.same 9]), [], true⟩ (.c 3 ⟨(svs 24 11), [(fv 9, 1), (fv 10, 5), (fv 11, 27), (fv 12, 1)], ([.same 8] ++ sm 2 6 ++ [.same 9]), [], true⟩ (.c 4 ⟨(svs 35 11), [(fv 13, 1), (fv 14, 5), (fv 15, 27), (fv 16, 1)], ([.same 8] ++ sm 2 6 ++ [.same 9]), [], true⟩ (.c 5 ⟨(svs 46 11), [(fv 17, 1), (fv 18, 5), (fv 19, 27), (fv 20, 1)], ([.same 8] ++ sm 2 6 ++ [.same 9]), [], true⟩ (.d (.bin .add) [sv 66, iv 1] (rv j 0 ⟨(svs 57 9 ++ [sv 68, sv 67, iv 0]), [(fv 21, 1), (fv 22, 5), (fv 23, 27)], (sm 1 7), [], true⟩)))))))
def c87_f (j : Nat) (z : Pat) : CFn := ⟨87, c87_a, z, [⟨none, numA 0 c87_a.vs, c87_a.mem, 11, 3, c87_T0 j⟩, ⟨(some [1, 1, 1, 1, 0, 1, 0]), [(0, pp 1), (3, pp 8), (31, .chan (some 10)), (32, sv 11), (33, sv 12)], [.cells [pp 2], k44, .cells [sv 0, .chan (some 4)], .lst false 1 0, .cells [.map (some 6)], .mp 4 1, .lst false 27 2, .cells [pp 2, .chan (some 9), nlS], .lst false 1 3, .lst false 2 4], 13, 5, c87_T1 j⟩], 0⟩
noncomputable def c87_c := mkf [c141_c, c142_c, c143_c, c144_c, c145_c, c146_c] (c87_f 0 c87_z0)

def c28_9_a : Pat := ⟨[pp 1], [.cells [iv 0, ff, sv 0, ff, iv 67108864, ff, sv 1, sv 2, iv 1, sv 3, sv 4, pp 2, .map (some 11), .slice (some ⟨15, 0, some 45⟩) 1 1, iv 1, iv 0], .cells [pp 3], k66, .cells [pp 5], k43, k68, .lst false 1 0, .cells [.map (some 9)], .mp 4 1, .lst false 27 2, .map [⟨iv 1, pp 12, 0⟩] 0, .cells [pp 13, nlS], k58, k2, k4], 13, 3⟩
def c28_9_z0 : Pat := ⟨[.slice (some ⟨17, 0, some 88⟩) 1 1, iv 0], [.cells [iv 0, ff, sv 0, ff, iv 67108864, ff, sv 1, sv 2, iv 1, sv 3, sv 4, pp 2, .map (some 11), nlS, iv 1, iv 1], .cells [pp 3], k66, .cells [pp 5], k42, .cells [sv 5, .chan (some 7)], .lst false 1 0, .cells [.map (some 9)], .mp 4 1, .lst false 27 2, .map [⟨iv 1, pp 12, 0⟩] 0, .cells [pp 13, .chan (some 16)], k58, k2, k4, .lst false 1 3, k0], 18, 6⟩
def c28_9_T0 (j : Nat) : Tr Lf := .c 0 ⟨(svs 5 8), [(fv 0, 1), (fv 1, 5), (fv 2, 27), (nlS, 2)], (sm 2 9), [], false⟩ (.t .eqi [sv 24, sv 24] (.t .eqi [sv 25, sv 25] (.c 1 ⟨[], [(nlS, 2), (fv 6, 2)], [], [], true⟩ (.c 2 ⟨[], [(fv 7, 2)], [], [], true⟩ (.t (.bin .geq) [sv 24, iv 0] (.t (.bin .leq) [sv 24, iv 2147483647] (.d (.conv .u32) [sv 24] (.d (.conv .u64) [sv 28] (.d (.bin .shr) [sv 29, .int .u64 (.ofNat 24)] (.d (.conv .u8) [sv 30] (.d (.bin .shr) [sv 29, .int .u64 (.ofNat 16)] (.d (.conv .u8) [sv 32] (.d (.bin .shr) [sv 29, .int .u64 (.ofNat 8)] (.d (.conv .u8) [sv 34] (.d (.bin .shr) [sv 29, .int .u64 (.ofNat 0)] (.d (.conv .u8) [sv 36] (.t (.bin .geq) [sv 25, iv 0] (.t (.bin .leq) [sv 25, iv 2147483647] (.d (.conv .u32) [sv 25] (.d (.conv .u64) [sv 38] (.d (.bin .shr) [sv 39, .int .u64 (.ofNat 24)] (.d (.conv .u8) [sv 40] (.d (.bin .shr) [sv 39, .int .u64 (.ofNat 16)] (.d (.conv .u8) [sv 42] (.d (.bin .shr) [sv 39, .int .u64 (.ofNat 8)] (.d (.conv .u8) [sv 44] (.d (.bin .shr) [sv 39, .int .u64 (.ofNat 0)] (.d (.conv .u8) [sv 46] (.d .bytes ([.int .u8 (.ofNat 1)] ++ rp 5 (.int .u8 (.ofNat 0)) ++ [sv 31, sv 33, sv 35, sv 37, sv 41, sv 43, sv 45, sv 47] ++ rp 7 (.int .u8 (.ofNat 0)) ++ [.int .u8 (.ofNat 1)]) (.d (.len true) [sv 48] (.t (.bin .eql) [sv 49, iv 0] (.x) (.t (.bin .gtr) [sv 49, iv 2048] (.x) (.d (.conv .u32) [sv 49] (.d (.conv .u64) [sv 50] (.d (.bin .shr) [sv 51, .int .u64 (.ofNat 24)] (.d (.conv .u8) [sv 52] (.d (.bin .shr) [sv 51, .int .u64 (.ofNat 16)] (.d (.conv .u8) [sv 54] (.d (.bin .shr) [sv 51, .int .u64 (.ofNat 8)] (.d (.conv .u8) [sv 56] (.d (.bin .shr) [sv 51, .int .u64 (.ofNat 0)] (.d (.conv .u8) [sv 58] (.e .ofs [sv 48] (.e (.lit 1) [sv 53, sv 55, sv 57, sv 59] (.e (.cat 1) [fv 9, fv 8] (.e .tos [fv 10] (.d (.len true) [sv 60] (.d (.bin .add) [iv 0, sv 61] (.t (.bin .gtr) [sv 62, sv 4] (.x) (.e .ofs [sv 60] (.e (.cat 1) [nlS, fv 11] (.c 3 ⟨(svs 13 11), [(fv 3, 1), (fv 4, 5), (fv 5, 27)], (sm 4 7), [], true⟩ (rv j 0 ⟨(svs 0 5 ++ svs 63 11 ++ [sv 24, sv 25]), [(fv 13, 1), (fv 14, 5), (fv 15, 27), (fv 12, 1), (fv 6, 2), (fv 7, 2)], (sm 1 15 ++ [.same 90, .same 19]), [], true⟩))))))))))))))))))))))))))))))))))) (.x)) (.x)))))))))))) (.x)) (.x)))) (.x)) (.x))
def c28_9_f (j : Nat) (z : Pat) : CFn := ⟨28, c28_9_a, z, [⟨none, numA 0 c28_9_a.vs, c28_9_a.mem, 13, 3, c28_9_T0 j⟩], 0⟩
noncomputable def c28_9_c := mkf [c58_6_c, c314_c, c212_c, c87_c] (c28_9_f 0 c28_9_z0)

def c18_19_a : Pat := ⟨[pp 1, iv 1, .slice (some ⟨16, 0, some 1⟩) 43 43], [.cells [iv 0, ff, sv 0, ff, iv 67108864, ff, sv 1, sv 2, iv 1, sv 3, sv 4, pp 2, .map (some 11), nlS, iv 1, iv 1], .cells [pp 3], k66, .cells [pp 5], k42, .cells [sv 5, .chan (some 7)], .lst false 1 0, .cells [.map (some 9)], .mp 4 1, .lst false 27 2, .map [⟨iv 1, pp 12, 0⟩] 0, .cells [pp 13, .chan (some 15)], k58, k2, .lst false 1 3, k25], 16, 4⟩
def c18_19_z0 : Pat := ⟨[iv 0], [.cells [iv 0, ff, sv 0, ff, iv 67108864, ff, sv 1, sv 2, iv 1, sv 3, sv 4, pp 2, .map (some 11), .slice (some ⟨18, 0, some 45⟩) 1 1, iv 2, iv 1], .cells [pp 3], k66, .cells [pp 5], k42, .cells [sv 5, .chan (some 7)], .lst false 1 0, .cells [.map (some 9)], .mp 4 1, .lst false 27 2, .map [⟨iv 1, pp 12, 0⟩] 0, .cells [pp 13, .chan (some 15)], .cells [tt, ff, .slice (some ⟨17, 43, some 1⟩) 0 0], .dead, .lst false 1 3, k25, k16, k5], 16, 4⟩
def c18_19_T0 (j : Nat) : Tr Lf := .t (.bin .geq) [iv 0, sv 3] (.x) (rv j 0 ⟨(svs 0 16), [(fv 0, 1), (fv 1, 5), (fv 2, 27), (fv 3, 1)], (sm 1 13 ++ [.dead] ++ sm 15 3 ++ [.same 31]), [], true⟩)
def c18_19_f (j : Nat) (z : Pat) : CFn := ⟨18, c18_19_a, z, [⟨none, numA 0 c18_19_a.vs, c18_19_a.mem, 16, 4, c18_19_T0 j⟩], 0⟩
noncomputable def c18_19_c := mkf [] (c18_19_f 0 c18_19_z0)

def c202_a : Pat := ⟨[pp 1, ag [sv 11, sv 12]], [.cells [pp 2], k44, .cells [sv 0, .chan (some 4)], .lst false 1 0, .cells [.map (some 6)], .mp 4 1, .lst false 27 2], 13, 3⟩
def c202_z0 : Pat := ⟨[ag (svs 11 4 ++ [fv 3] ++ svs 15 22), iv 0], [.cells [pp 2], k44, .cells [sv 0, .chan (some 4)], .lst false 1 0, .cells [.map (some 6)], .mp 4 1, .lst false 27 2], 38, 4⟩
def c202_T0 (j : Nat) : Tr Lf := .c 0 ⟨[sv 0, sv 11], [(fv 0, 1)], [.same 3, .same 4], [], true⟩ (.t .truth [sv 16] (.t .eqi [sv 14, sv 11] (.t .eqi [sv 15, sv 12] (.e (.iad 27) [fv 2, sv 11] (.l 4 [true, true, true, true, false, true, true, true, true, true, true, true, true, true, true, true, true, true, true, true, true, true, true, true, true, true, true] (.c 1 ⟨(svs 17 26), [(fv 5, 2)], [], [], false⟩ (rv j 0 ⟨([sv 13] ++ svs 1 10 ++ svs 43 26 ++ [iv 0]), [(fv 3, 1), (fv 1, 5), (fv 2, 27), (fv 6, 2)], (sm 1 7), [], true⟩)))) (.x)) (.x)) (.x))
def c202_f (j : Nat) (z : Pat) : CFn := ⟨202, c202_a, z, [⟨none, numA 0 c202_a.vs, c202_a.mem, 13, 3, c202_T0 j⟩], 0⟩
noncomputable def c202_c := mkf [c121_c, c99_c] (c202_f 0 c202_z0)

def c156_a : Pat := ⟨[nlS, .func (.func 267) ⟨[]⟩ ⟨[pp 1]⟩], [.cells [sv 0, sv 1]], 2, 0⟩
def c156_z0 : Pat := ⟨[nv 0], [.cells [sv 0, sv 1]], 3, 0⟩
def c156_T0 (j : Nat) : Tr Lf := .lf (.go 1 ⟨[sv 0, sv 1, iv 0, iv 0], [], [.same 1], [], true⟩)
def c156_T1 (j : Nat) : Tr Lf := .t (.bin .lss) [sv 3, sv 2] (.x) (rv j 0 ⟨[sv 0, sv 1, nv 0], [], [.same 1], [], true⟩)
def c156_f (j : Nat) (z : Pat) : CFn := ⟨156, c156_a, z, [⟨none, numA 0 c156_a.vs, c156_a.mem, 2, 0, c156_T0 j⟩, ⟨(some [1, 0, 1, 0]), [(0, nlS), (1, .func (.func 267) ⟨[]⟩ ⟨[pp 1]⟩), (7, sv 2), (8, sv 3)], [.cells [sv 0, sv 1]], 4, 0, c156_T1 j⟩], 0⟩
noncomputable def c156_c := mk [] (c156_f 0 c156_z0)

def c204_a : Pat := ⟨[ag (svs 0 8), ag (svs 8 4)], [], 12, 0⟩
def c204_z0 : Pat := ⟨[ag (svs 0 4)], [], 4, 0⟩
def c204_T0 (j : Nat) : Tr Lf := .c 0 ⟨[sv 6, sv 7], [], [], [], true⟩ (.d (.un .neg) [sv 12] (.c 1 ⟨[sv 4, sv 5, sv 8, sv 9, sv 14, sv 13, sv 10, sv 11], [], [], [], true⟩ (.c 1 ⟨(svs 6 4 ++ [sv 4, sv 5, sv 10, sv 11]), [], [], [], true⟩ (.c 2 ⟨(svs 0 4 ++ svs 15 4), [], [.same 9], [], true⟩ (rv j 0 ⟨(svs 27 4), [], [], [], true⟩)))))
def c204_f (j : Nat) (z : Pat) : CFn := ⟨204, c204_a, z, [⟨none, numA 0 c204_a.vs, c204_a.mem, 12, 0, c204_T0 j⟩], 0⟩
noncomputable def c204_c := mk [c148_c, c341_c, c272_c] (c204_f 0 c204_z0)

def c386_a : Pat := ⟨[pp 1], [.cells [sv 0, .chan (some 2)], .lst false 1 0], 1, 1⟩
def c386_z0 : Pat := ⟨[sv 1], [.cells [sv 0, .chan (some 2)], .lst false 1 0], 2, 1⟩
def c386_T0 (j : Nat) : Tr Lf := .d (.bin .shr) [sv 0, .int .u64 (.ofNat 1)] (.d (.bin .and) [sv 1, .int .u64 (.ofNat 6148914691236517205)] (.d (.bin .and) [sv 0, .int .u64 (.ofNat 6148914691236517205)] (.d (.bin .add) [sv 2, sv 3] (.d (.bin .shr) [sv 4, .int .u64 (.ofNat 2)] (.d (.bin .and) [sv 5, .int .u64 (.ofNat 3689348814741910323)] (.d (.bin .and) [sv 4, .int .u64 (.ofNat 3689348814741910323)] (.d (.bin .add) [sv 6, sv 7] (.d (.bin .shr) [sv 8, .int .u64 (.ofNat 4)] (.d (.bin .add) [sv 9, sv 8] (.d (.bin .and) [sv 10, .int .u64 (.ofNat 1085102592571150095)] (.d (.bin .shr) [sv 11, .int .u64 (.ofNat 8)] (.d (.bin .add) [sv 11, sv 12] (.d (.bin .shr) [sv 13, .int .u64 (.ofNat 16)] (.d (.bin .add) [sv 13, sv 14] (.d (.bin .shr) [sv 15, .int .u64 (.ofNat 32)] (.d (.bin .add) [sv 15, sv 16] (.d (.conv .i64) [sv 17] (.d (.bin .and) [sv 18, iv 127] (rv j 0 ⟨[sv 0, sv 19], [(fv 0, 1)], [.same 1, .same 2], [], true⟩)))))))))))))))))))
def c386_f (j : Nat) (z : Pat) : CFn := ⟨386, c386_a, z, [⟨none, numA 0 c386_a.vs, c386_a.mem, 1, 1, c386_T0 j⟩], 0⟩
noncomputable def c386_c := mkf [] (c386_f 0 c386_z0)

def c338_a : Pat := ⟨[pp 1], [.cells [sv 0, .chan (some 2)], .lst false 1 0], 1, 1⟩
def c338_z0 : Pat := ⟨[sv 1], [.cells [sv 0, .chan (some 2)], .lst false 1 0], 2, 1⟩
def c338_T0 (j : Nat) : Tr Lf := .e .len [fv 0] (.t (.bin .eql) [sv 1, iv 0] (.x) (.c 0 ⟨[sv 0], [(fv 0, 1)], [.same 1, .same 2], [], true⟩ (rv j 0 ⟨[sv 2, sv 3], [(fv 1, 1)], [.same 1, .same 2], [], true⟩)))
def c338_f (j : Nat) (z : Pat) : CFn := ⟨338, c338_a, z, [⟨none, numA 0 c338_a.vs, c338_a.mem, 1, 1, c338_T0 j⟩], 0⟩
noncomputable def c338_c := mkf [c386_c] (c338_f 0 c338_z0)

def c295_a : Pat := ⟨[fv 0, .func (.func 296) ⟨[]⟩ ⟨[pp 1]⟩], [.cells [sv 0]], 1, 1⟩
def c295_z0 : Pat := ⟨[sv 1], [.cells [sv 0]], 2, 0⟩
def c295_T0 (j : Nat) : Tr Lf := .e .len [fv 0] (.lf (.go 1 ⟨[sv 0, sv 1, iv 0], [(fv 0, 2)], [.same 1], [], true⟩))
def c295_T1 (j : Nat) : Tr Lf := .t (.bin .lss) [sv 2, sv 1] (.e (.iad 2) [fv 0, sv 2] (.l 1 [true, true] (.t (.bin .eql) [sv 3, sv 0] (rv j 0 ⟨[sv 0, sv 2], [], [.same 1], [], true⟩) (.x)))) (.x)
def c295_f (j : Nat) (z : Pat) : CFn := ⟨295, c295_a, z, [⟨none, numA 0 c295_a.vs, c295_a.mem, 1, 1, c295_T0 j⟩, ⟨(some [1, 0, 1, 0]), [(0, fv 0), (1, .func (.func 296) ⟨[]⟩ ⟨[pp 1]⟩), (7, sv 1), (8, sv 2)], [.cells [sv 0]], 3, 1, c295_T1 j⟩], 0⟩
noncomputable def c295_c := mk [] (c295_f 0 c295_z0)

def c229_a : Pat := ⟨[pp 1, ag (svs 11 16)], [k46, .cells [sv 0, .chan (some 3)], .lst false 1 0, .cells [.map (some 5)], .mp 4 1, .lst false 27 2], 27, 3⟩
def c229_z0 : Pat := ⟨[ag ([sv 11, sv 12, iv 0] ++ svs 14 10)], [k46, .cells [sv 0, .chan (some 3)], .lst false 1 0, .cells [.map (some 5)], .mp 4 1, .lst false 27 2], 24, 3⟩
def c229_T0 (j : Nat) : Tr Lf := .c 0 ⟨[sv 0], [(fv 0, 1)], [.same 2, .same 3], [], true⟩ (.c 1 ⟨[sv 13], [(fv 4, 2)], [.same 9], [], true⟩ (.t (.bin .neq) [sv 12, iv 1] (.x) (rv j 0 ⟨([sv 27] ++ svs 1 10 ++ [sv 12, sv 29, iv 0] ++ svs 17 10), [(fv 3, 1), (fv 1, 5), (fv 2, 27)], (sm 1 6), [], true⟩)))
def c229_f (j : Nat) (z : Pat) : CFn := ⟨229, c229_a, z, [⟨none, numA 0 c229_a.vs, c229_a.mem, 27, 3, c229_T0 j⟩], 0⟩
noncomputable def c229_c := mkf [c141_c, c295_c] (c229_f 0 c229_z0)

def c337_a : Pat := ⟨[sv 0, ag (svs 1 13)], [], 14, 0⟩
def c337_z0 : Pat := ⟨[iv 0], [], 1, 0⟩
def c337_T0 (j : Nat) : Tr Lf := .t (.bin .eql) [sv 1, iv 1] (.t .eqi [sv 1, iv 1] (.t (.bin .eql) [sv 1, iv 2] (.x) (.t (.bin .lss) [sv 2, iv 0] (.x) (.t (.bin .geq) [sv 2, sv 0] (.x) (.c 0 ⟨([iv 32] ++ svs 4 4), [], [.same 2], [], true⟩ (.c 0 ⟨([iv 4096] ++ svs 8 4), [], [.same 3], [], true⟩ (.t (.bin .neq) [sv 3, iv 0] (.x) (.t .eqi [sv 12, iv 0] (.t (.beq false) [sv 13, ff] (rv j 0 ⟨[iv 0], [], [], [], true⟩) (.x)) (.x)))))))) (.x)) (.x)
def c337_f (j : Nat) (z : Pat) : CFn := ⟨337, c337_a, z, [⟨none, numA 0 c337_a.vs, c337_a.mem, 14, 0, c337_T0 j⟩], 0⟩
noncomputable def c337_c := mk [c307_c] (c337_f 0 c337_z0)

def c160_a : Pat := ⟨[ag (svs 0 16)], [], 16, 0⟩
def c160_z0 : Pat := ⟨[.slice (some ⟨1, 0, none⟩) 1 1], [.cells [sv 0]], 1, 0⟩
def c160_T0 (j : Nat) : Tr Lf := .t (.bin .eql) [sv 1, iv 1] (rv j 0 ⟨[sv 2], [], [.same 2], [], true⟩) (.x)
def c160_f (j : Nat) (z : Pat) : CFn := ⟨160, c160_a, z, [⟨none, numA 0 c160_a.vs, c160_a.mem, 16, 0, c160_T0 j⟩], 0⟩
noncomputable def c160_c := mk [] (c160_f 0 c160_z0)

def c350_1_a : Pat := ⟨[.slice (some ⟨1, 0, none⟩) 1 1, .func (.func 340) ⟨[]⟩ ⟨[pp 2]⟩], [.cells [sv 0], .cells [pp 3], .cells ([pp 4, pp 6] ++ svs 2 8 ++ [.chan (some 8), nlS, sv 10, sv 11]), .cells [sv 1, .chan (some 5)], .lst false 1 0, .cells [.map (some 7)], .mp 4 1, .lst false 27 2], 12, 3⟩
def c350_1_z0 : Pat := ⟨[iv 0], [.cells [sv 0], .cells [pp 3], .cells ([pp 4, pp 6] ++ svs 2 8 ++ [.chan (some 8), nlS, sv 10, sv 11]), .cells [sv 1, .chan (some 5)], .lst false 1 0, .cells [.map (some 7)], .mp 4 1, .lst false 27 2], 13, 3⟩
def c350_1_T0 (j : Nat) : Tr Lf := .e (.iad 27) [fv 2, sv 0] (.l 3 [true, true, true, true, false, true, true, true, true, true, true, true, true, true, true, true, true, true, true, true, true, true, true, true, true, true, true] (.t (.bin .neq) [sv 30, iv 0] (rv j 0 ⟨(svs 0 12 ++ [iv 0]), [(fv 0, 1), (fv 1, 5), (fv 2, 27)], (sm 1 8), [], true⟩) (.x)))
def c350_1_f (j : Nat) (z : Pat) : CFn := ⟨350, c350_1_a, z, [⟨none, numA 0 c350_1_a.vs, c350_1_a.mem, 12, 3, c350_1_T0 j⟩], 0⟩
noncomputable def c350_1_c := mkf [] (c350_1_f 0 c350_1_z0)

def c271_a : Pat := ⟨[pp 1, ag (svs 11 16)], [k46, .cells [sv 0, .chan (some 3)], .lst false 1 0, .cells [.map (some 5)], .mp 4 1, .lst false 27 2], 27, 3⟩
def c271_z0 : Pat := ⟨[iv 0], [k46, .cells [sv 0, .chan (some 3)], .lst false 1 0, .cells [.map (some 5)], .mp 4 1, .lst false 27 2], 12, 3⟩
def c271_T0 (j : Nat) : Tr Lf := .t (.bin .eql) [sv 12, iv 1] (.c 0 ⟨[sv 0, sv 13], [(fv 0, 1)], [.same 2, .same 3], [], true⟩ (.t .truth [sv 30] (.t .eqi [sv 28, sv 13] (.t .eqi [sv 29, sv 14] (.c 1 ⟨[sv 27], [(fv 3, 1)], [.same 2, .same 3], [], true⟩ (.c 2 ⟨([sv 31] ++ svs 1 26), [(fv 4, 1), (fv 1, 5), (fv 2, 27)], (sm 1 6), [], true⟩ (.c 3 ⟨([sv 32, sv 44, sv 45, iv 0] ++ svs 47 10), [], [], [], true⟩ (.t .eqi [sv 15, iv 0] (.t .eqi [sv 16, iv 0] (.c 4 ⟨(svs 11 16), [], [], [], true⟩ (.e (.lit 1) [sv 58] (.c 5 ⟨([sv 58] ++ svs 33 11), [(fv 5, 1), (fv 6, 5), (fv 7, 27)], ([.same 11, .same 7] ++ sm 1 6), [], true⟩ (rv j 0 ⟨(svs 60 11 ++ [iv 0]), [(fv 9, 1), (fv 10, 5), (fv 11, 27)], (sm 1 6), [], true⟩)))) (.x)) (.x))))) (.x)) (.x)) (.x))) (.x)
def c271_f (j : Nat) (z : Pat) : CFn := ⟨271, c271_a, z, [⟨none, numA 0 c271_a.vs, c271_a.mem, 27, 3, c271_T0 j⟩], 0⟩
noncomputable def c271_c := mkf [c121_c, c338_c, c229_c, c337_c, c160_c, c350_1_c] (c271_f 0 c271_z0)

def c239_a : Pat := ⟨[ag (svs 0 4 ++ [fv 0] ++ svs 4 22)], [], 26, 1⟩
def c239_z0 : Pat := ⟨[ag (svs 0 4 ++ [fv 0] ++ svs 4 18 ++ [iv 0, ff, sv 24, sv 25])], [], 26, 1⟩
def c239_T0 (j : Nat) : Tr Lf := .c 0 ⟨(svs 0 26), [(fv 0, 2)], [], [], false⟩ (.t (.bin .neq) [sv 44, iv 0] (.d (.un .not) [sv 50] (.t .truth [sv 52] (rv j 0 ⟨(svs 26 22 ++ [iv 0, ff, sv 50, sv 51]), [(fv 1, 2)], [], [], true⟩) (.x))) (.x))
def c239_f (j : Nat) (z : Pat) : CFn := ⟨239, c239_a, z, [⟨none, numA 0 c239_a.vs, c239_a.mem, 26, 1, c239_T0 j⟩], 0⟩
noncomputable def c239_c := mkf [c99_c] (c239_f 0 c239_z0)

def c159_a : Pat := ⟨[pp 1, .slice (some ⟨8, 0, none⟩) 1 1], [k29, .cells [sv 0, .chan (some 3)], .lst false 1 0, .cells [.map (some 5)], .mp 4 1, .lst false 27 2, .cells (svs 9 16), .cells [sv 27]], 28, 3⟩
def c159_z0 : Pat := ⟨[], [k29, .cells [sv 0, .chan (some 3)], .lst false 1 0, .cells [.map (some 5)], .mp 4 1, .lst false 27 2, .cells (svs 9 16), .cells [sv 27]], 28, 3⟩
def c159_T0 (j : Nat) : Tr Lf := .e (.iad 27) [fv 2, sv 27] (.l 3 [true, true, true, true, false, true, true, true, true, true, true, true, true, true, true, true, true, true, true, true, true, true, true, true, true, true, true] (.c 0 ⟨(svs 28 26), [(fv 4, 2)], [], [], false⟩ (.e (.set 27 0) ([fv 2, sv 27] ++ svs 54 4 ++ [fv 5] ++ svs 58 18 ++ [iv 0, ff, sv 78, sv 79]) (rv j 0 ⟨(svs 0 28), [(fv 0, 1), (fv 1, 5), (fv 6, 27)], (sm 1 8), [], true⟩))))
def c159_f (j : Nat) (z : Pat) : CFn := ⟨159, c159_a, z, [⟨none, numA 0 c159_a.vs, c159_a.mem, 28, 3, c159_T0 j⟩], 0⟩
noncomputable def c159_c := mkf [c239_c] (c159_f 0 c159_z0)

def c203_a : Pat := ⟨[pp 1, ag (svs 11 16)], [.cells [pp 2], k44, .cells [sv 0, .chan (some 4)], .lst false 1 0, .cells [.map (some 6)], .mp 4 1, .lst false 27 2], 27, 3⟩
def c203_z0 : Pat := ⟨[sv 27, iv 0], [.cells [pp 2], k30, .cells [sv 0, .chan (some 4)], .lst false 1 0, .cells [.map (some 6)], .mp 4 1, .lst false 27 2, .cells (svs 9 16)], 29, 3⟩
def c203_T0 (j : Nat) : Tr Lf := .c 0 ⟨(svs 0 27), [(fv 0, 1), (fv 1, 5), (fv 2, 27)], (sm 2 6), [], true⟩ (.t (.bin .neq) [sv 11, iv 0] (.x) (.t (.bin .eql) [sv 37, iv 2147483647] (.x) (.d (.bin .add) [sv 37, iv 1] (.c 1 ⟨([sv 39] ++ svs 12 15), [], [], [], true⟩ (.c 2 ⟨(svs 27 9 ++ [sv 39] ++ svs 12 15 ++ [sv 36, sv 39, sv 40]), [(fv 3, 1), (fv 4, 5), (fv 5, 27)], (sm 2 6 ++ [.same 10, .same 11]), [], true⟩ (rv j 0 ⟨(svs 41 27 ++ [sv 39, iv 0]), [(fv 6, 1), (fv 7, 5), (fv 8, 27)], (sm 1 7 ++ [.same 10]), [], true⟩))))))
def c203_f (j : Nat) (z : Pat) : CFn := ⟨203, c203_a, z, [⟨none, numA 0 c203_a.vs, c203_a.mem, 27, 3, c203_T0 j⟩], 0⟩
noncomputable def c203_c := mkf [c271_c, c160_c, c159_c] (c203_f 0 c203_z0)

def c58_7_a : Pat := ⟨[pp 1, iv 1, ag ([iv 4, iv 0, iv 0, iv 1] ++ rp 5 (iv 0) ++ [fv 3, iv 0, ff, iv 0, ff, iv 0, ff, iv 0, ff, iv 0, ff, iv 0, ff, iv 0, ff, iv 0, ff, iv 0, ff, iv 0, ff, iv 0, ff, iv 0, ff] ++ rp 9 (iv 0))], [.cells [pp 2], k67, .cells [pp 4], k45, .cells [sv 0, .chan (some 6)], .lst false 1 0, .cells [.map (some 8)], .mp 4 1, .lst false 27 2], 11, 4⟩
def c58_7_z0 : Pat := ⟨[ag ([iv 4, iv 0, iv 0, iv 0, iv 1, sv 28, sv 29] ++ rp 4 (iv 0) ++ [fv 3, iv 0, ff, iv 0, ff, iv 0, ff, iv 0, ff, iv 0, ff, iv 0, ff, iv 0, ff, iv 0, ff, iv 0, ff, iv 0, ff, ff, iv 0, fv 4, ff, iv 0, ff, iv 0, ff, iv 0, ff, iv 0]), iv 0], [.cells [pp 2], .cells ([pp 3, ff, tt] ++ rp 15 (ff) ++ [.slice (some ⟨11, 0, some 4⟩) 1 1]), .cells [pp 4], k28, .cells [sv 0, .chan (some 6)], .lst false 1 0, .cells [.map (some 8)], .mp 4 1, .lst false 27 2, .cells (svs 9 16), .cells [sv 27, iv 1, iv 0, iv 1]], 30, 5⟩
def c58_7_T0 (j : Nat) : Tr Lf := .c 0 ⟨[], [(nlS, 2), (fv 3, 2)], [], [], true⟩ (.c 1 ⟨(svs 0 11 ++ [iv 0, iv 1]), [(fv 0, 1), (fv 1, 5), (fv 2, 27)], (sm 3 7), [], false⟩ (.c 2 ⟨[iv 0, iv 1], [], [.same 113], [], true⟩ (.c 2 ⟨[iv 0, iv 1], [], [.same 122], [], true⟩ (.c 3 ⟨(svs 27 8 ++ [iv 0, ff, iv 0, ff]), [], [], [], true⟩ (.c 4 ⟨(svs 12 11 ++ [iv 0, iv 1, iv 0, iv 1, iv 0, iv 0, iv 0, ff, iv 0, ff] ++ svs 56 4 ++ [iv 0, ff]), [(fv 4, 1), (fv 5, 5), (fv 6, 27)], (sm 3 7), [], true⟩ (rv j 0 ⟨(svs 60 28 ++ [sv 48, sv 87]), [(fv 8, 1), (fv 9, 5), (fv 10, 27), (nlS, 2), (nlS, 2)], (sm 1 9 ++ [.same 123, .same 125]), [], true⟩))))))
def c58_7_f (j : Nat) (z : Pat) : CFn := ⟨58, c58_7_a, z, [⟨none, numA 0 c58_7_a.vs, c58_7_a.mem, 11, 4, c58_7_T0 j⟩], 0⟩
noncomputable def c58_7_c := mkf [c314_c, c202_c, c156_c, c204_c, c203_c] (c58_7_f 0 c58_7_z0)

def c142_1_a : Pat := ⟨[pp 1], [.cells [pp 2, .chan (some 9), nlS], k30, .cells [sv 0, .chan (some 4)], .lst false 1 0, .cells [.map (some 6)], .mp 4 1, .lst false 27 2, .cells (svs 9 16), .lst false 1 3], 27, 4⟩
def c142_1_z0 : Pat := ⟨[], [.cells [pp 2, .chan (some 9), nlS], k30, .cells [sv 0, .chan (some 4)], .lst false 1 0, .cells [.map (some 6)], .mp 4 1, .lst false 27 2, .cells (svs 9 16), .lst false 1 3], 27, 4⟩
def c142_1_T0 (j : Nat) : Tr Lf := .t (.bin .eql) [sv 10, iv 1] (.c 0 ⟨(svs 0 27 ++ [sv 11]), [(fv 0, 1), (fv 1, 5), (fv 2, 27)], (sm 2 7 ++ [.same 11]), [], true⟩ (rv j 0 ⟨(svs 27 27), [(fv 4, 1), (fv 5, 5), (fv 6, 27), (fv 3, 1)], (sm 1 9), [], true⟩)) (.x)
def c142_1_f (j : Nat) (z : Pat) : CFn := ⟨142, c142_1_a, z, [⟨none, numA 0 c142_1_a.vs, c142_1_a.mem, 27, 4, c142_1_T0 j⟩], 0⟩
noncomputable def c142_1_c := mkf [c159_c] (c142_1_f 0 c142_1_z0)

def c143_1_a : Pat := ⟨[pp 1], [.cells [pp 2, .chan (some 9), nlS], k30, .cells [sv 0, .chan (some 4)], .lst false 1 0, .cells [.map (some 6)], .mp 4 1, .lst false 27 2, .cells (svs 9 16), .lst false 1 3], 27, 4⟩
def c143_1_z0 : Pat := ⟨[], [.cells [pp 2, .chan (some 9), nlS], k30, .cells [sv 0, .chan (some 4)], .lst false 1 0, .cells [.map (some 6)], .mp 4 1, .lst false 27 2, .cells (svs 9 16), .lst false 1 3], 27, 4⟩
def c143_1_T0 (j : Nat) : Tr Lf := .e .len [fv 3] (.lf (.go 1 ⟨(svs 0 28 ++ [iv 0]), [(fv 0, 1), (fv 1, 5), (fv 2, 27), (fv 3, 1)], (sm 1 9), [], true⟩))
def c143_1_T1 (j : Nat) : Tr Lf := .t (.bin .lss) [sv 28, sv 27] (.e (.iad 1) [fv 3, sv 28] (.l 4 [true] (.e (.iad 27) [fv 2, sv 29] (.l 5 [true, true, true, true, false, true, true, true, true, true, true, true, true, true, true, true, true, true, true, true, true, true, true, true, true, true, true] (.c 0 ⟨(svs 30 26 ++ svs 1 6), [(fv 6, 2)], [], [], false⟩ (.e (.set 27 0) ([fv 2, sv 29] ++ svs 56 4 ++ [fv 7] ++ svs 60 9 ++ [ff, sv 70, ff] ++ svs 72 10) (.d (.bin .add) [sv 28, iv 1] (.lf (.go 1 ⟨(svs 0 28 ++ [sv 82]), [(fv 0, 1), (fv 1, 5), (fv 8, 27), (fv 3, 1)], (sm 1 9), [], true⟩))))))))) (rv j 0 ⟨(svs 0 27), [(fv 0, 1), (fv 1, 5), (fv 2, 27), (fv 3, 1)], (sm 1 9), [], true⟩)
def c143_1_f (j : Nat) (z : Pat) : CFn := ⟨143, c143_1_a, z, [⟨none, numA 0 c143_1_a.vs, c143_1_a.mem, 27, 4, c143_1_T0 j⟩, ⟨(some [1, 0]), [(0, pp 1), (7, .chan (some 9)), (8, sv 27), (9, sv 28)], [.cells [pp 2, .chan (some 9), nlS], k30, .cells [sv 0, .chan (some 4)], .lst false 1 0, .cells [.map (some 6)], .mp 4 1, .lst false 27 2, .cells (svs 9 16), .lst false 1 3], 29, 4, c143_1_T1 j⟩], 0⟩
noncomputable def c143_1_c := mkf [c225_c] (c143_1_f 0 c143_1_z0)

def c144_1_a : Pat := ⟨[pp 1], [.cells [pp 2, .chan (some 9), nlS], k30, .cells [sv 0, .chan (some 4)], .lst false 1 0, .cells [.map (some 6)], .mp 4 1, .lst false 27 2, .cells (svs 9 16), .lst false 1 3], 27, 4⟩
def c144_1_z0 : Pat := ⟨[], [.cells [pp 2, .chan (some 9), nlS], k30, .cells [sv 0, .chan (some 4)], .lst false 1 0, .cells [.map (some 6)], .mp 4 1, .lst false 27 2, .cells (svs 9 16), .lst false 1 3], 27, 4⟩
def c144_1_T0 (j : Nat) : Tr Lf := .c 0 ⟨[], [(fv 1, 5)], [.same 5, .same 6], [], true⟩ (.e .len [fv 5] (.lf (.go 1 ⟨(svs 0 28 ++ [iv 0]), [(fv 0, 1), (fv 4, 5), (fv 2, 27), (fv 3, 1), (fv 5, 2)], (sm 1 10), [], true⟩)))
def c144_1_T1 (j : Nat) : Tr Lf := .t (.bin .lss) [sv 28, sv 27] (.x) (rv j 0 ⟨(svs 0 27), [(fv 0, 1), (fv 1, 5), (fv 2, 27), (fv 3, 1)], (sm 1 9), [], true⟩)
def c144_1_f (j : Nat) (z : Pat) : CFn := ⟨144, c144_1_a, z, [⟨none, numA 0 c144_1_a.vs, c144_1_a.mem, 27, 4, c144_1_T0 j⟩, ⟨(some [1, 0]), [(0, pp 1), (15, .chan (some 10)), (16, sv 27), (17, sv 28)], [.cells [pp 2, .chan (some 9), nlS], k30, .cells [sv 0, .chan (some 4)], .lst false 1 0, .cells [.map (some 6)], .mp 4 1, .lst false 27 2, .cells (svs 9 16), .lst false 1 3, .lst false 2 4], 29, 5, c144_1_T1 j⟩], 0⟩
noncomputable def c144_1_c := mkf [c226_c] (c144_1_f 0 c144_1_z0)

def c229_1_a : Pat := ⟨[pp 1, ag (svs 27 16)], [k29, .cells [sv 0, .chan (some 3)], .lst false 1 0, .cells [.map (some 5)], .mp 4 1, .lst false 27 2, .cells (svs 9 16)], 43, 3⟩
def c229_1_z0 : Pat := ⟨[ag ([sv 27, sv 28, iv 0] ++ svs 30 10)], [k29, .cells [sv 0, .chan (some 3)], .lst false 1 0, .cells [.map (some 5)], .mp 4 1, .lst false 27 2, .cells (svs 9 16)], 40, 3⟩
def c229_1_T0 (j : Nat) : Tr Lf := .c 0 ⟨[sv 0], [(fv 0, 1)], [.same 2, .same 3], [], true⟩ (.c 1 ⟨[sv 29], [(fv 4, 2)], [.same 10], [], true⟩ (.t (.bin .neq) [sv 28, iv 1] (.x) (rv j 0 ⟨([sv 43] ++ svs 1 26 ++ [sv 28, sv 45, iv 0] ++ svs 33 10), [(fv 3, 1), (fv 1, 5), (fv 2, 27)], (sm 1 7), [], true⟩)))
def c229_1_f (j : Nat) (z : Pat) : CFn := ⟨229, c229_1_a, z, [⟨none, numA 0 c229_1_a.vs, c229_1_a.mem, 43, 3, c229_1_T0 j⟩], 0⟩
noncomputable def c229_1_c := mkf [c141_c, c295_c] (c229_1_f 0 c229_1_z0)

def c457_a : Pat := ⟨[ag [sv 0, sv 1], ag [sv 2, sv 3], ag [sv 4, sv 5], ag [sv 6, sv 7], ag (svs 8 4)], [], 12, 0⟩
def c457_z0 : Pat := ⟨[ag [sv 0, ff, sv 2, ff], tt], [], 5, 0⟩
def c457_T0 (j : Nat) : Tr Lf := .c 0 ⟨[sv 2, sv 3], [], [], [], true⟩ (.d (.un .neg) [sv 12] (.c 1 ⟨[sv 0, sv 1, sv 6, sv 7, sv 14, sv 13, sv 4, sv 5], [], [], [], true⟩ (.t .truth [sv 16] (.x) (.t (.bin .eql) [sv 15, iv 0] (.x) (.c 1 ⟨[sv 8, sv 9, sv 6, sv 7, sv 14, sv 13, sv 10, sv 11], [], [], [], true⟩ (.c 0 ⟨[sv 17, sv 18], [], [], [], true⟩ (.c 0 ⟨[sv 15, sv 16], [], [], [], true⟩ (.c 2 ⟨[sv 19, sv 21], [], [], [], true⟩ (.t .truth [sv 24] (.x) (.c 3 ⟨(svs 19 4), [], [.same 16], [], true⟩ (.c 0 ⟨[sv 8, sv 9], [], [], [], true⟩ (.d (.un .neg) [sv 30] (.c 1 ⟨[sv 0, sv 1, sv 10, sv 11, sv 32, sv 31, sv 4, sv 5], [], [], [], true⟩ (.c 0 ⟨[sv 33, sv 34], [], [], [], true⟩ (.c 2 ⟨[sv 35, sv 21], [], [], [], true⟩ (.t .truth [sv 38] (.x) (.c 3 ⟨[sv 35, sv 36, sv 21, sv 22], [], [.same 23], [], true⟩ (.c 4 ⟨[sv 23, ff, sv 37, ff], [], [.same 25], [], true⟩ (rv j 0 ⟨[sv 23, ff, sv 37, ff, tt], [], [], [], true⟩)))))))))))))))))))
def c457_f (j : Nat) (z : Pat) : CFn := ⟨457, c457_a, z, [⟨none, numA 0 c457_a.vs, c457_a.mem, 12, 0, c457_T0 j⟩], 0⟩
noncomputable def c457_c := mk [c148_c, c341_c, c89_c, c373_c, c460_c] (c457_f 0 c457_z0)

def c443_a : Pat := ⟨[ag [sv 0, sv 1], pp 1], [.cells [sv 2]], 3, 0⟩
def c443_z0 : Pat := ⟨[ag [sv 1, ff]], [.cells [sv 0]], 3, 0⟩
def c443_T0 (j : Nat) : Tr Lf := .d (.un .neg) [sv 2] (.c 0 ⟨[sv 3], [], [], [], true⟩ (.d (.bin .shl) [sv 5, .int .u64 (.ofNat 32)] (.d (.bin .shr) [sv 5, .int .u64 (.ofNat 32)] (.d (.bin .or) [.int .u64 (.ofNat 0), sv 8] (.c 1 ⟨[sv 4, sv 7, sv 9, ff], [], [], [], true⟩ (.c 0 ⟨[sv 2], [], [], [], true⟩ (.d (.bin .shl) [sv 13, .int .u64 (.ofNat 32)] (.d (.bin .shr) [sv 13, .int .u64 (.ofNat 32)] (.d (.bin .or) [.int .u64 (.ofNat 0), sv 16] (.c 1 ⟨[sv 12, sv 15, sv 17, ff], [], [], [], true⟩ (.c 2 ⟨[iv 1, sv 0, sv 1, sv 18, sv 19], [], [.same 14], [], true⟩ (.c 2 ⟨[nv 0, sv 10, sv 11, sv 24, sv 25], [], [.same 16], [], true⟩ (rv j 0 ⟨[sv 2, sv 30, ff], [], [.same 1], [], true⟩)))))))))))))
def c443_f (j : Nat) (z : Pat) : CFn := ⟨443, c443_a, z, [⟨none, numA 0 c443_a.vs, c443_a.mem, 3, 0, c443_T0 j⟩], 0⟩
noncomputable def c443_c := mk [c149_c, c152_c, c236_c] (c443_f 0 c443_z0)

def c385_a : Pat := ⟨[ag [sv 0, sv 1], sv 2], [], 3, 0⟩
def c385_z0 : Pat := ⟨[ag [sv 0, ff]], [], 2, 0⟩
def c385_T0 (j : Nat) : Tr Lf := .c 0 ⟨(svs 0 3), [], [.same 2], [], true⟩ (rv j 0 ⟨[sv 4, ff], [], [], [], true⟩)
def c385_f (j : Nat) (z : Pat) : CFn := ⟨385, c385_a, z, [⟨none, numA 0 c385_a.vs, c385_a.mem, 3, 0, c385_T0 j⟩], 0⟩
noncomputable def c385_c := mk [c443_c] (c385_f 0 c385_z0)

def c336_a : Pat := ⟨[pp 1, ag (svs 26 4), ag (svs 30 4)], [k81], 34, 1⟩
def c336_z0 : Pat := ⟨[], [k35], 26, 1⟩
def c336_T0 (j : Nat) : Tr Lf := .t (.bin .neq) [sv 18, iv 0] (.t .truth [sv 24] (.x) (.c 0 ⟨[sv 4, sv 5], [], [], [], true⟩ (.d (.un .neg) [sv 34] (.c 1 ⟨[sv 26, sv 27, sv 36, sv 35], [], [.same 15], [], true⟩ (.c 0 ⟨[sv 6, sv 7], [], [], [], true⟩ (.d (.un .neg) [sv 43] (.c 1 ⟨[sv 28, sv 29, sv 45, sv 44], [], [.same 21], [], true⟩ (.c 0 ⟨[sv 50, sv 51], [], [], [], true⟩ (.d (.un .neg) [sv 52] (.c 2 ⟨[sv 41, sv 42, sv 32, sv 33, sv 54, sv 53, sv 30, sv 31], [], [], [], true⟩ (.c 3 ⟨[sv 20, sv 21, sv 55, sv 56], [], [], [], true⟩ (.c 3 ⟨[sv 30, sv 31, sv 18, sv 19], [], [], [], true⟩ (.c 3 ⟨[sv 32, sv 33, sv 18, sv 19], [], [], [], true⟩ (.c 4 ⟨(svs 12 4 ++ svs 59 4), [], [.same 31], [], true⟩ (.c 5 ⟨(svs 71 4 ++ [iv 256]), [], [], [], true⟩ (.c 1 ⟨[sv 16, sv 17, sv 57, sv 58], [], [.same 35], [], true⟩ (.c 6 ⟨[sv 83, sv 84, iv 64], [], [], [], true⟩ (.t .truth [sv 23] (.x) (rv j 0 ⟨(svs 0 12 ++ [sv 75, ff, sv 77, ff, sv 85, ff] ++ svs 18 8), [(fv 0, 2)], [.same 1], [], true⟩))))))))))))))))))) (.x)
def c336_f (j : Nat) (z : Pat) : CFn := ⟨336, c336_a, z, [⟨none, numA 0 c336_a.vs, c336_a.mem, 34, 1, c336_T0 j⟩], 0⟩
noncomputable def c336_c := mkf [c148_c, c328_1_c, c341_c, c308_c, c272_c, c282_c, c385_c] (c336_f 0 c336_z0)

def c359_a : Pat := ⟨[.slice (some ⟨1, 0, none⟩) 1 1, ag (svs 26 13), ag [sv 39, sv 40]], [.cells [pp 2], k81], 41, 1⟩
def c359_z0 : Pat := ⟨[], [.cells [pp 2], k35], 26, 1⟩
def c359_T0 (j : Nat) : Tr Lf := .t .eqi [sv 27, iv 0] (.c 0 ⟨(svs 4 8 ++ svs 29 4), [], [], [], true⟩ (.c 1 ⟨[sv 41, sv 42], [], [], [], true⟩ (.d (.un .neg) [sv 45] (.c 2 ⟨[sv 33, sv 34, sv 47, sv 46], [], [.same 14], [], true⟩ (.c 1 ⟨[sv 43, sv 44], [], [], [], true⟩ (.d (.un .neg) [sv 54] (.c 2 ⟨[sv 35, sv 36, sv 56, sv 55], [], [.same 20], [], true⟩ (.c 3 ⟨[sv 52, sv 53, sv 39, sv 40], [], [], [], true⟩ (.c 3 ⟨[sv 61, sv 62, sv 39, sv 40], [], [], [], true⟩ (.c 1 ⟨[sv 4, sv 5], [], [], [], true⟩ (.d (.un .neg) [sv 67] (.c 2 ⟨[sv 41, sv 42, sv 69, sv 68], [], [.same 36], [], true⟩ (.c 1 ⟨[sv 6, sv 7], [], [], [], true⟩ (.d (.un .neg) [sv 76] (.c 2 ⟨[sv 43, sv 44, sv 78, sv 77], [], [.same 42], [], true⟩ (.c 1 ⟨[sv 83, sv 84], [], [], [], true⟩ (.d (.un .neg) [sv 85] (.c 4 ⟨[sv 74, sv 75], [], [.same 50], [], true⟩ (.c 3 ⟨[sv 87, sv 86, sv 16, sv 17], [], [], [], true⟩ (.c 3 ⟨[sv 90, sv 91, sv 16, sv 17], [], [], [], true⟩ (.c 5 ⟨(svs 12 4 ++ svs 92 4), [], [.same 54], [], true⟩ (.c 1 ⟨[sv 104, sv 105], [], [], [], true⟩ (.d (.un .neg) [sv 108] (.c 2 ⟨[sv 63, sv 64, sv 110, sv 109], [], [.same 63], [], true⟩ (.c 1 ⟨[sv 106, sv 107], [], [], [], true⟩ (.d (.un .neg) [sv 117] (.c 2 ⟨[sv 65, sv 66, sv 119, sv 118], [], [.same 69], [], true⟩ (.c 2 ⟨[sv 41, sv 42, sv 69, sv 68], [], [.same 83], [], true⟩ (.c 2 ⟨[sv 43, sv 44, sv 78, sv 77], [], [.same 89], [], true⟩ (.c 3 ⟨[sv 136, sv 137, sv 136, sv 137], [], [], [], true⟩ (.c 3 ⟨[sv 20, sv 21, sv 138, sv 139], [], [], [], true⟩ (.c 2 ⟨[sv 18, sv 19, sv 140, sv 141], [], [.same 96], [], true⟩ (.c 3 ⟨[sv 130, sv 131, sv 136, sv 137], [], [], [], true⟩ (.c 3 ⟨[sv 20, sv 21, sv 148, sv 149], [], [], [], true⟩ (.c 1 ⟨[sv 150, sv 151], [], [], [], true⟩ (.d (.un .neg) [sv 152] (.c 3 ⟨[sv 130, sv 131, sv 130, sv 131], [], [], [], true⟩ (.c 3 ⟨[sv 20, sv 21, sv 155, sv 156], [], [], [], true⟩ (.c 2 ⟨[sv 18, sv 19, sv 157, sv 158], [], [.same 102], [], true⟩ (.c 6 ⟨[sv 146, sv 147, sv 154, sv 153, sv 154, sv 153, sv 163, sv 164, sv 115, sv 116, sv 124, sv 125], [], [], [], true⟩ (.c 7 ⟨(svs 0 26 ++ svs 41 4 ++ [sv 165, ff, sv 167, ff]), [(fv 0, 2)], [.same 2], [], false⟩ (rv j 0 ⟨(svs 170 13 ++ [ff, sv 184, ff, sv 186, ff] ++ svs 188 8), [(fv 1, 2)], [.same 1, .same 2], [], true⟩)))))))))))))))))))))))))))))))))))))))))) (.x)
def c359_f (j : Nat) (z : Pat) : CFn := ⟨359, c359_a, z, [⟨none, numA 0 c359_a.vs, c359_a.mem, 41, 1, c359_T0 j⟩], 0⟩
noncomputable def c359_c := mkf [c204_c, c148_c, c328_1_c, c308_c, c328_c, c272_c, c457_c, c336_c] (c359_f 0 c359_z0)

def c299_a : Pat := ⟨[.slice (some ⟨1, 0, none⟩) 1 1, ag (svs 26 13), ag [sv 39, sv 40]], [.cells [pp 2], k81], 41, 1⟩
def c299_z0 : Pat := ⟨[], [.cells [pp 2], k35], 26, 1⟩
def c299_T0 (j : Nat) : Tr Lf := .c 0 ⟨([iv 1] ++ svs 26 13), [], [], [], true⟩ (.c 1 ⟨[sv 39, sv 40], [], [], [], true⟩ (.c 1 ⟨[iv 0, ff], [], [], [], true⟩ (.c 2 ⟨[sv 42, sv 44], [], [], [], true⟩ (.t (.bin .leq) [sv 46, iv 0] (.x) (.c 3 ⟨[iv 1, iv 5], [], [], [], true⟩ (.c 1 ⟨[sv 47, sv 48], [], [], [], true⟩ (.c 3 ⟨[sv 49, sv 42], [], [], [], true⟩ (.t .truth [sv 52] (.x) (.c 4 ⟨[sv 49, sv 50, sv 42, sv 43], [], [.same 12], [], true⟩ (.t .eqi [sv 26, iv 0] (.x) (.t .eqi [sv 26, iv 1] (.c 5 ⟨(svs 0 39 ++ [sv 51, ff]), [(fv 0, 2)], [.same 1, .same 2], [], false⟩ (rv j 0 ⟨(svs 58 13 ++ [ff, sv 72, ff, sv 74, ff] ++ svs 76 8), [(fv 1, 2)], [.same 1, .same 2], [], true⟩)) (.x))))))))))))
def c299_f (j : Nat) (z : Pat) : CFn := ⟨299, c299_a, z, [⟨none, numA 0 c299_a.vs, c299_a.mem, 41, 1, c299_T0 j⟩], 0⟩
noncomputable def c299_c := mkf [c337_c, c148_c, c147_c, c89_c, c373_c, c359_c] (c299_f 0 c299_z0)

def c230_1_a : Pat := ⟨[fv 0, nlS, .slice (some ⟨1, 0, none⟩) 1 1, sv 13, ag [sv 14, sv 15]], [.cells (svs 0 13)], 16, 1⟩
def c230_1_z0 : Pat := ⟨[.slice (some ⟨2, 0, none⟩) 1 1, .slice (some ⟨3, 0, none⟩) 0 0], [.cells (svs 0 13), .cells (svs 13 4 ++ [fv 0] ++ svs 17 22), .cells []], 39, 1⟩
def c230_1_T0 (j : Nat) : Tr Lf := .c 0 ⟨[], [(fv 0, 27)], [], [], false⟩ (.d (.mm false) [sv 13, iv 16] (.d (.mm true) [iv 0, sv 42] (.t (.bin .lss) [iv 0, sv 43] (.c 1 ⟨(svs 16 26 ++ svs 0 13 ++ [sv 14, sv 15]), [(fv 1, 2)], [.same 3, .same 4], [], false⟩ (.t .eqi [sv 43, iv 1] (.t (.bin .lss) [iv 1, sv 43] (.x) (.c 2 ⟨(svs 44 13 ++ [ff, sv 58, ff, sv 60, ff] ++ svs 62 8), [(fv 2, 2)], [.same 3, .same 4], [], false⟩ (rv j 0 ⟨(svs 0 13 ++ svs 96 26), [(fv 4, 2)], [.same 1, .same 7, .same 5], [], true⟩))) (.t .eqi [sv 43, iv 2] (.t (.bin .lss) [iv 1, sv 43] (.c 1 ⟨(svs 44 13 ++ [ff, sv 58, ff, sv 60, ff] ++ svs 62 8 ++ svs 0 13 ++ [sv 14, sv 15]), [(fv 2, 2)], [.same 3, .same 4], [], false⟩ (.t (.bin .lss) [iv 2, sv 43] (.x) (.c 2 ⟨(svs 70 13 ++ [ff, sv 84, ff, sv 86, ff] ++ svs 88 8), [(fv 3, 2)], [.same 3, .same 4], [], false⟩ (rv j 0 ⟨(svs 0 13 ++ svs 122 26), [(fv 5, 2)], [.same 1, .same 8, .same 5], [], true⟩)))) (.x)) (.t .eqi [sv 43, iv 3] (.t (.bin .lss) [iv 1, sv 43] (.c 1 ⟨(svs 44 13 ++ [ff, sv 58, ff, sv 60, ff] ++ svs 62 8 ++ svs 0 13 ++ [sv 14, sv 15]), [(fv 2, 2)], [.same 3, .same 4], [], false⟩ (.t (.bin .lss) [iv 2, sv 43] (.c 1 ⟨(svs 70 13 ++ [ff, sv 84, ff, sv 86, ff] ++ svs 88 8 ++ svs 0 13 ++ [sv 14, sv 15]), [(fv 3, 2)], [.same 3, .same 4], [], false⟩ (.t (.bin .lss) [iv 3, sv 43] (.x) (.c 2 ⟨(svs 96 13 ++ [ff, sv 110, ff, sv 112, ff] ++ svs 114 8), [(fv 4, 2)], [.same 3, .same 4], [], false⟩ (rv j 0 ⟨(svs 0 13 ++ svs 148 26), [(fv 6, 2)], [.same 1, .same 9, .same 5], [], true⟩)))) (.x))) (.x)) (.t .eqi [sv 43, iv 4] (.t (.bin .lss) [iv 1, sv 43] (.c 1 ⟨(svs 44 13 ++ [ff, sv 58, ff, sv 60, ff] ++ svs 62 8 ++ svs 0 13 ++ [sv 14, sv 15]), [(fv 2, 2)], [.same 3, .same 4], [], false⟩ (.t (.bin .lss) [iv 2, sv 43] (.c 1 ⟨(svs 70 13 ++ [ff, sv 84, ff, sv 86, ff] ++ svs 88 8 ++ svs 0 13 ++ [sv 14, sv 15]), [(fv 3, 2)], [.same 3, .same 4], [], false⟩ (.t (.bin .lss) [iv 3, sv 43] (.c 1 ⟨(svs 96 13 ++ [ff, sv 110, ff, sv 112, ff] ++ svs 114 8 ++ svs 0 13 ++ [sv 14, sv 15]), [(fv 4, 2)], [.same 3, .same 4], [], false⟩ (.t (.bin .lss) [iv 4, sv 43] (.x) (.c 2 ⟨(svs 122 13 ++ [ff, sv 136, ff, sv 138, ff] ++ svs 140 8), [(fv 5, 2)], [.same 3, .same 4], [], false⟩ (rv j 0 ⟨(svs 0 13 ++ svs 174 26), [(fv 7, 2)], [.same 1, .same 10, .same 5], [], true⟩)))) (.x))) (.x))) (.x)) (.x)))))) (.x))))
def c230_1_f (j : Nat) (z : Pat) : CFn := ⟨230, c230_1_a, z, [⟨none, numA 0 c230_1_a.vs, c230_1_a.mem, 16, 1, c230_1_T0 j⟩], 0⟩
noncomputable def c230_1_c := mkf [c297_c, c299_c, c302_c] (c230_1_f 0 c230_1_z0)

def c145_1_a : Pat := ⟨[pp 1], [.cells [pp 2, .chan (some 9), nlS], k30, .cells [sv 0, .chan (some 4)], .lst false 1 0, .cells [.map (some 6)], .mp 4 1, .lst false 27 2, .cells (svs 9 16), .lst false 1 3], 27, 4⟩
def c145_1_z0 : Pat := ⟨[], [.cells [pp 2, .chan (some 9), nlS], k30, .cells [sv 0, .chan (some 4)], .lst false 1 0, .cells [.map (some 6)], .mp 4 1, .lst false 27 2, .cells (svs 9 16), .lst false 1 3], 27, 4⟩
def c145_1_T0 (j : Nat) : Tr Lf := .e .len [fv 3] (.t (.bin .leq) [sv 27, iv 1048576] (.e .rep ([sv 27] ++ rp 4 (iv 0) ++ [nlS, iv 0, ff, iv 0, ff, iv 0, ff, iv 0, ff, iv 0, ff, iv 0, ff, iv 0, ff, iv 0, ff, iv 0, ff, iv 0, ff, ff, iv 0]) (.lf (.go 1 ⟨(svs 0 28 ++ [iv 0]), [(fv 0, 1), (fv 1, 5), (fv 2, 27), (fv 3, 1), (fv 4, 27)], (sm 1 10), [], true⟩))) (.x))
def c145_1_T1 (j : Nat) : Tr Lf := .t (.bin .lss) [sv 28, sv 27] (.e (.iad 1) [fv 3, sv 28] (.l 5 [true] (.e (.iad 27) [fv 2, sv 29] (.l 6 [true, true, true, true, false, true, true, true, true, true, true, true, true, true, true, true, true, true, true, true, true, true, true, true, true, true, true] (.e (.iad 27) [fv 4, sv 28] (.e (.set 27 0) ([fv 4, sv 28] ++ svs 30 4 ++ [fv 7] ++ svs 34 22) (.d (.bin .add) [sv 28, iv 1] (.lf (.go 1 ⟨(svs 0 28 ++ [sv 56]), [(fv 0, 1), (fv 1, 5), (fv 2, 27), (fv 3, 1), (fv 9, 27)], (sm 1 10), [], true⟩))))))))) (.lf (.go 2 ⟨(svs 0 27 ++ rp 4 (iv 0) ++ [ff, iv 0, ff, iv 0, ff, iv 0, ff, iv 0, ff, iv 1, iv 0]), [(fv 0, 1), (fv 1, 5), (fv 2, 27), (fv 3, 1), (fv 4, 27)], (sm 1 11), [], true⟩))
def c145_1_T2 (j : Nat) : Tr Lf := .t (.bin .lss) [sv 41, sv 40] (.t .eqi [sv 41, iv 0] (.c 0 ⟨(svs 0 27 ++ svs 9 16), [(fv 0, 1), (fv 1, 5), (fv 2, 27)], (sm 2 7), [], true⟩ (.d (.bin .add) [sv 41, iv 1] (.lf (.go 2 ⟨(svs 42 29 ++ [iv 0] ++ svs 72 10 ++ [sv 40, sv 82]), [(fv 5, 1), (fv 6, 5), (fv 7, 27), (fv 3, 1), (fv 4, 27)], (sm 1 11), [], true⟩)))) (.x)) (.c 1 ⟨(svs 27 13 ++ [sv 8, sv 5, sv 6]), [(fv 4, 27)], [.same 11], [10], false⟩ (.e .len [fv 3] (.lf (.go 3 ⟨(svs 0 27 ++ svs 55 27 ++ [iv 0]), [(fv 0, 1), (fv 1, 5), (fv 2, 27), (fv 3, 1), (fv 5, 2)], (sm 1 9 ++ [.same 12]), [], true⟩))))
def c145_1_T3 (j : Nat) : Tr Lf := .t (.bin .lss) [sv 54, sv 53] (.e (.iad 1) [fv 3, sv 54] (.l 5 [true] (.t .eqi [sv 54, iv 0] (.e (.iad 27) [fv 2, sv 55] (.e (.set 27 0) ([fv 2, sv 55] ++ svs 27 4 ++ [fv 4] ++ svs 31 22) (.d (.bin .add) [sv 54, iv 1] (.lf (.go 3 ⟨(svs 0 54 ++ [sv 56]), [(fv 0, 1), (fv 1, 5), (fv 7, 27), (fv 3, 1), (fv 4, 2)], (sm 1 10), [], true⟩))))) (.x)))) (rv j 0 ⟨(svs 0 27), [(fv 0, 1), (fv 1, 5), (fv 2, 27), (fv 3, 1)], (sm 1 9), [], true⟩)
def c145_1_f (j : Nat) (z : Pat) : CFn := ⟨145, c145_1_a, z, [⟨none, numA 0 c145_1_a.vs, c145_1_a.mem, 27, 4, c145_1_T0 j⟩, ⟨(some [1, 0, 1, 0]), [(0, pp 1), (2, .chan (some 10)), (19, .chan (some 9)), (20, sv 27), (21, sv 28)], [.cells [pp 2, .chan (some 9), nlS], k30, .cells [sv 0, .chan (some 4)], .lst false 1 0, .cells [.map (some 6)], .mp 4 1, .lst false 27 2, .cells (svs 9 16), .lst false 1 3, .lst false 27 4], 29, 5, c145_1_T1 j⟩, ⟨(some [1, 1, 1, 0, 1, 0]), [(0, pp 1), (2, .chan (some 10)), (5, .slice (some ⟨11, 0, none⟩) 1 1), (55, .slice (some ⟨8, 0, some 16⟩) 1 1), (56, sv 40), (57, sv 41)], [.cells [pp 2, .chan (some 9), nlS], k30, .cells [sv 0, .chan (some 4)], .lst false 1 0, .cells [.map (some 6)], .mp 4 1, .lst false 27 2, .cells (svs 9 16), .lst false 1 3, .lst false 27 4, .cells (svs 27 13)], 42, 5, c145_1_T2 j⟩, ⟨(some [1, 1, 1, 1, 1, 1, 0]), [(0, pp 1), (2, .slice (some ⟨10, 0, none⟩) 1 1), (101, .chan (some 9)), (102, sv 53), (103, sv 54)], [.cells [pp 2, .chan (some 9), nlS], k30, .cells [sv 0, .chan (some 4)], .lst false 1 0, .cells [.map (some 6)], .mp 4 1, .lst false 27 2, .cells (svs 9 16), .lst false 1 3, .cells (svs 27 4 ++ [fv 4] ++ svs 31 22)], 55, 5, c145_1_T3 j⟩], 0⟩
noncomputable def c145_1_c := mkf [c229_1_c, c230_1_c] (c145_1_f 0 c145_1_z0)

def c146_1_a : Pat := ⟨[pp 1], [.cells [pp 2, .chan (some 9), nlS], k30, .cells [sv 0, .chan (some 4)], .lst false 1 0, .cells [.map (some 6)], .mp 4 1, .lst false 27 2, .cells (svs 9 16), .lst false 1 3], 27, 4⟩
def c146_1_z0 : Pat := ⟨[], [.cells [pp 2, .chan (some 9), nlS], k30, .cells [sv 0, .chan (some 4)], .lst false 1 0, .cells [.map (some 6)], .mp 4 1, .lst false 27 2, .cells (svs 9 16), .lst false 1 3], 27, 4⟩
def c146_1_T0 (j : Nat) : Tr Lf := .e .len [fv 3] (.lf (.go 1 ⟨(svs 0 28 ++ [iv 0]), [(fv 0, 1), (fv 1, 5), (fv 2, 27), (fv 3, 1)], (sm 1 9), [], true⟩))
def c146_1_T1 (j : Nat) : Tr Lf := .t (.bin .lss) [sv 28, sv 27] (.e (.iad 1) [fv 3, sv 28] (.l 4 [true] (.e (.iad 27) [fv 2, sv 29] (.l 5 [true, true, true, true, false, true, true, true, true, true, true, true, true, true, true, true, true, true, true, true, true, true, true, true, true, true, true] (.c 0 ⟨(svs 30 26 ++ [sv 5, sv 6]), [(fv 6, 2)], [], [], false⟩ (.c 1 ⟨(svs 56 26), [(fv 7, 2)], [], [], false⟩ (.e (.set 27 0) ([fv 2, sv 29] ++ svs 82 4 ++ [fv 8] ++ svs 86 22) (.c 2 ⟨(svs 82 26), [(fv 8, 2)], [], [], true⟩ (.c 3 ⟨([sv 29] ++ svs 108 4), [(fv 1, 5)], [.same 5, .same 6], [], true⟩ (.t (.bin .eql) [sv 112, iv 9] (.x) (.d (.bin .add) [sv 28, iv 1] (.lf (.go 1 ⟨(svs 0 28 ++ [sv 113]), [(fv 0, 1), (fv 10, 5), (fv 9, 27), (fv 3, 1)], (sm 1 9), [], true⟩))))))))))))) (rv j 0 ⟨(svs 0 27), [(fv 0, 1), (fv 1, 5), (fv 2, 27), (fv 3, 1)], (sm 1 9), [], true⟩)
def c146_1_f (j : Nat) (z : Pat) : CFn := ⟨146, c146_1_a, z, [⟨none, numA 0 c146_1_a.vs, c146_1_a.mem, 27, 4, c146_1_T0 j⟩, ⟨(some [1, 0]), [(0, pp 1), (7, .chan (some 9)), (8, sv 27), (9, sv 28)], [.cells [pp 2, .chan (some 9), nlS], k30, .cells [sv 0, .chan (some 4)], .lst false 1 0, .cells [.map (some 6)], .mp 4 1, .lst false 27 2, .cells (svs 9 16), .lst false 1 3], 29, 4, c146_1_T1 j⟩], 0⟩
noncomputable def c146_1_c := mkf [c233_c, c232_c, c303_c, c304_c] (c146_1_f 0 c146_1_z0)

def c87_1_a : Pat := ⟨[pp 1], [.cells [pp 2], k30, .cells [sv 0, .chan (some 4)], .lst false 1 0, .cells [.map (some 6)], .mp 4 1, .lst false 27 2, .cells (svs 9 16)], 27, 3⟩
def c87_1_z0 : Pat := ⟨[iv 0], [.cells [pp 2], k30, .cells [sv 0, .chan (some 4)], .lst false 1 0, .cells [.map (some 6)], .mp 4 1, .lst false 27 2, .cells (svs 9 16)], 28, 3⟩
def c87_1_T0 (j : Nat) : Tr Lf := .t (.bin .geq) [sv 25, iv 1099511627776] (.x) (.c 0 ⟨[sv 0], [(fv 0, 1)], [.same 3, .same 4], [], true⟩ (.e .len [fv 4] (.lf (.go 1 ⟨([sv 27] ++ svs 1 26 ++ [sv 28, iv 0]), [(fv 3, 1), (fv 1, 5), (fv 2, 27), (nlS, 1), (fv 4, 2)], (sm 1 9 ++ [.nil, .same 10]), [], true⟩))))
def c87_1_T1 (j : Nat) : Tr Lf := .t (.bin .lss) [sv 28, sv 27] (.e (.iad 2) [fv 4, sv 28] (.l 5 [true, true] (.e (.app 1) [fv 3, sv 29] (.d (.bin .add) [sv 28, iv 1] (.lf (.go 1 ⟨(svs 0 28 ++ [sv 31]), [(fv 0, 1), (fv 1, 5), (fv 2, 27), (fv 6, 1), (fv 4, 2)], (sm 1 9 ++ [.same 14, .same 11]), [], true⟩)))))) (.c 1 ⟨(svs 0 27), [(fv 0, 1), (fv 1, 5), (fv 2, 27), (fv 3, 1)], ([.same 9] ++ sm 2 7 ++ [.same 10]), [], true⟩ (.c 2 ⟨(svs 29 27), [(fv 5, 1), (fv 6, 5), (fv 7, 27), (fv 8, 1)], ([.same 9] ++ sm 2 7 ++ [.same 10]), [], true⟩ (.c 3 ⟨(svs 56 27), [(fv 9, 1), (fv 10, 5), (fv 11, 27), (fv 12, 1)], ([.same 9] ++ sm 2 7 ++ [.same 10]), [], true⟩ (.c 4 ⟨(svs 83 27), [(fv 13, 1), (fv 14, 5), (fv 15, 27), (fv 16, 1)], ([.same 9] ++ sm 2 7 ++ [.same 10]), [], true⟩ (.c 5 ⟨(svs 110 27), [(fv 17, 1), (fv 18, 5), (fv 19, 27), (fv 20, 1)], ([.same 9] ++ sm 2 7 ++ [.same 10]), [], true⟩ (.d (.bin .add) [sv 162, iv 1] (rv j 0 ⟨(svs 137 25 ++ [sv 164, sv 163, iv 0]), [(fv 21, 1), (fv 22, 5), (fv 23, 27)], (sm 1 8), [], true⟩)))))))
def c87_1_f (j : Nat) (z : Pat) : CFn := ⟨87, c87_1_a, z, [⟨none, numA 0 c87_1_a.vs, c87_1_a.mem, 27, 3, c87_1_T0 j⟩, ⟨(some [1, 1, 1, 1, 0, 1, 0]), [(0, pp 1), (3, pp 9), (31, .chan (some 11)), (32, sv 27), (33, sv 28)], [.cells [pp 2], k30, .cells [sv 0, .chan (some 4)], .lst false 1 0, .cells [.map (some 6)], .mp 4 1, .lst false 27 2, .cells (svs 9 16), .cells [pp 2, .chan (some 10), nlS], .lst false 1 3, .lst false 2 4], 29, 5, c87_1_T1 j⟩], 0⟩
noncomputable def c87_1_c := mkf [c141_c, c142_1_c, c143_1_c, c144_1_c, c145_1_c, c146_1_c] (c87_1_f 0 c87_1_z0)

def c28_10_a : Pat := ⟨[pp 1], [.cells [iv 0, ff, sv 0, ff, iv 67108864, ff, sv 1, sv 2, iv 1, sv 3, sv 4, pp 2, .map (some 11), .slice (some ⟨16, 0, some 45⟩) 1 1, iv 2, iv 1], .cells [pp 3], k66, .cells [pp 5], k42, .cells [sv 5, .chan (some 7)], .lst false 1 0, .cells [.map (some 9)], .mp 4 1, .lst false 27 2, .map [⟨iv 1, pp 12, 0⟩] 0, .cells [pp 13, .chan (some 15)], k59, k16, .lst false 1 3, k5], 16, 4⟩
def c28_10_z0 : Pat := ⟨[.slice (some ⟨20, 0, some 88⟩) 1 1, iv 0], [.cells [iv 0, ff, sv 0, ff, iv 67108864, ff, sv 1, sv 2, iv 1, sv 3, sv 4, pp 2, .map (some 11), nlS, iv 2, iv 2], .cells [pp 3], .cells ([pp 4, ff, tt] ++ rp 15 (ff) ++ [.slice (some ⟨18, 0, some 4⟩) 1 1]), .cells [pp 5], .cells ([pp 6, pp 8] ++ svs 6 8 ++ [.chan (some 10), .slice (some ⟨17, 0, some 16⟩) 1 1, sv 30, sv 31]), .cells [sv 5, .chan (some 7)], .lst false 1 0, .cells [.map (some 9)], .mp 4 1, .lst false 27 2, .map [⟨iv 1, pp 12, 0⟩] 0, .cells [pp 13, .chan (some 19)], k59, k16, .dead, k5, .cells (svs 14 16), .cells [sv 32, iv 1, iv 0, iv 1], .lst false 1 3, k1], 35, 6⟩
def c28_10_T0 (j : Nat) : Tr Lf := .c 0 ⟨(svs 5 11), [(fv 0, 1), (fv 1, 5), (fv 2, 27), (nlS, 2)], (sm 2 9), [], false⟩ (.t (.bin .eql) [sv 44, sv 44] (.t (.bin .eql) [sv 45, sv 45] (.c 1 ⟨[], [(nlS, 2), (fv 7, 2)], [], [], true⟩ (.c 2 ⟨[], [(fv 8, 2)], [], [], true⟩ (.t (.bin .geq) [sv 44, iv 0] (.t (.bin .leq) [sv 44, iv 1099511627776] (.d (.conv .u64) [sv 44] (.d (.bin .shr) [sv 48, .int .u64 (.ofNat 56)] (.d (.conv .u8) [sv 49] (.d (.bin .shr) [sv 48, .int .u64 (.ofNat 48)] (.d (.conv .u8) [sv 51] (.d (.bin .shr) [sv 48, .int .u64 (.ofNat 40)] (.d (.conv .u8) [sv 53] (.d (.bin .shr) [sv 48, .int .u64 (.ofNat 32)] (.d (.conv .u8) [sv 55] (.d (.bin .shr) [sv 48, .int .u64 (.ofNat 24)] (.d (.conv .u8) [sv 57] (.d (.bin .shr) [sv 48, .int .u64 (.ofNat 16)] (.d (.conv .u8) [sv 59] (.d (.bin .shr) [sv 48, .int .u64 (.ofNat 8)] (.d (.conv .u8) [sv 61] (.d (.bin .shr) [sv 48, .int .u64 (.ofNat 0)] (.d (.conv .u8) [sv 63] (.t (.bin .geq) [sv 45, iv 0] (.t (.bin .leq) [sv 45, iv 2147483647] (.d (.conv .u32) [sv 45] (.d (.conv .u64) [sv 65] (.d (.bin .shr) [sv 66, .int .u64 (.ofNat 24)] (.d (.conv .u8) [sv 67] (.d (.bin .shr) [sv 66, .int .u64 (.ofNat 16)] (.d (.conv .u8) [sv 69] (.d (.bin .shr) [sv 66, .int .u64 (.ofNat 8)] (.d (.conv .u8) [sv 71] (.d (.bin .shr) [sv 66, .int .u64 (.ofNat 0)] (.d (.conv .u8) [sv 73] (.d .bytes ([.int .u8 (.ofNat 4)] ++ rp 12 (.int .u8 (.ofNat 0)) ++ [.int .u8 (.ofNat 1), sv 50, sv 52, sv 54, sv 56, sv 58, sv 60, sv 62, sv 64, sv 68, sv 70, sv 72, sv 74]) (.d (.len true) [sv 75] (.t (.bin .eql) [sv 76, iv 0] (.x) (.t (.bin .gtr) [sv 76, iv 2048] (.x) (.d (.conv .u32) [sv 76] (.d (.conv .u64) [sv 77] (.d (.bin .shr) [sv 78, .int .u64 (.ofNat 24)] (.d (.conv .u8) [sv 79] (.d (.bin .shr) [sv 78, .int .u64 (.ofNat 16)] (.d (.conv .u8) [sv 81] (.d (.bin .shr) [sv 78, .int .u64 (.ofNat 8)] (.d (.conv .u8) [sv 83] (.d (.bin .shr) [sv 78, .int .u64 (.ofNat 0)] (.d (.conv .u8) [sv 85] (.e .ofs [sv 75] (.e (.lit 1) [sv 80, sv 82, sv 84, sv 86] (.e (.cat 1) [fv 10, fv 9] (.e .tos [fv 11] (.e .len [fv 3] (.d (.len true) [sv 87] (.d (.bin .add) [sv 88, sv 89] (.t (.bin .gtr) [sv 90, sv 4] (.x) (.e .ofs [sv 87] (.e (.cat 1) [fv 3, fv 12] (.c 3 ⟨(svs 16 27), [(fv 4, 1), (fv 5, 5), (fv 6, 27)], (sm 4 7 ++ [.same 18]), [], true⟩ (rv j 0 ⟨(svs 0 5 ++ svs 91 27 ++ svs 43 3), [(fv 14, 1), (fv 15, 5), (fv 16, 27), (fv 13, 1), (fv 7, 2), (fv 8, 2)], (sm 1 14 ++ [.dead, .same 16, .same 18, .same 19, .same 101, .same 22]), [], true⟩)))))))))))))))))))))))))))))))))))) (.x)) (.x))))))))))))))))))) (.x)) (.x)))) (.x)) (.x))
def c28_10_f (j : Nat) (z : Pat) : CFn := ⟨28, c28_10_a, z, [⟨none, numA 0 c28_10_a.vs, c28_10_a.mem, 16, 4, c28_10_T0 j⟩], 0⟩
noncomputable def c28_10_c := mkf [c58_7_c, c314_c, c212_c, c87_1_c] (c28_10_f 0 c28_10_z0)

def c162_a : Pat := ⟨[fv 0], [], 0, 1⟩
def c162_z0 : Pat := ⟨[.chan (some 1)], [.lst false 1 0], 0, 1⟩
def c162_T0 (j : Nat) : Tr Lf := .u .nil [fv 0] (.x) (.e (.lit 1) [] (.e (.cat 1) [fv 1, fv 0] (rv j 0 ⟨[], [(fv 2, 1)], [.same 2], [], true⟩)))
def c162_f (j : Nat) (z : Pat) : CFn := ⟨162, c162_a, z, [⟨none, numA 0 c162_a.vs, c162_a.mem, 0, 1, c162_T0 j⟩], 0⟩
noncomputable def c162_c := mkf [] (c162_f 0 c162_z0)

def c97_a : Pat := ⟨[pp 1], [.cells [sv 0, .chan (some 2)], .lst false 1 0], 1, 1⟩
def c97_z0 : Pat := ⟨[pp 3], [.cells [sv 0, .chan (some 2)], .lst false 1 0, .cells [sv 1, .chan (some 4)], .lst false 1 1], 2, 2⟩
def c97_T0 (j : Nat) : Tr Lf := .e .len [fv 0] (.t (.bin .eql) [sv 1, iv 0] (.x) (.c 0 ⟨[], [(fv 0, 1)], [], [], true⟩ (rv j 0 ⟨[sv 0, sv 0], [(fv 0, 1), (fv 1, 1)], [.same 1, .same 2, .same 4, .same 3], [], true⟩)))
def c97_f (j : Nat) (z : Pat) : CFn := ⟨97, c97_a, z, [⟨none, numA 0 c97_a.vs, c97_a.mem, 1, 1, c97_T0 j⟩], 0⟩
noncomputable def c97_c := mkf [c162_c] (c97_f 0 c97_z0)

def c164_a : Pat := ⟨[.map (some 1)], [.mp 4 0], 0, 1⟩
def c164_z0 : Pat := ⟨[.map (some 2)], [.mp 4 0, .mp 4 1], 0, 2⟩
def c164_T0 (j : Nat) : Tr Lf := rv j 0 ⟨[], [(fv 0, 5), (fv 0, 5)], [.same 1, .same 2], [], true⟩
def c164_f (j : Nat) (z : Pat) : CFn := ⟨164, c164_a, z, [⟨none, numA 0 c164_a.vs, c164_a.mem, 0, 1, c164_T0 j⟩], 0⟩
noncomputable def c164_c := mkf [] (c164_f 0 c164_z0)

def c98_a : Pat := ⟨[pp 1], [.cells [.map (some 2)], .mp 4 0], 0, 1⟩
def c98_z0 : Pat := ⟨[pp 3], [.cells [.map (some 2)], .mp 4 0, .cells [.map (some 4)], .mp 4 1], 0, 2⟩
def c98_T0 (j : Nat) : Tr Lf := .c 0 ⟨[], [(fv 0, 5)], [.same 2], [], true⟩ (rv j 0 ⟨[], [(fv 1, 5), (fv 2, 5)], [.same 1, .same 2, .same 4, .same 3], [], true⟩)
def c98_f (j : Nat) (z : Pat) : CFn := ⟨98, c98_a, z, [⟨none, numA 0 c98_a.vs, c98_a.mem, 0, 1, c98_T0 j⟩], 0⟩
noncomputable def c98_c := mkf [c164_c] (c98_f 0 c98_z0)

def c100_a : Pat := ⟨[.slice (some ⟨1, 0, some 16⟩) 1 1], [.cells (svs 0 16)], 16, 0⟩
def c100_z0 : Pat := ⟨[.slice (some ⟨2, 0, some 16⟩) 1 1], [.cells (svs 0 16), .cells (svs 16 16)], 32, 0⟩
def c100_T0 (j : Nat) : Tr Lf := rv j 0 ⟨(svs 0 16 ++ svs 0 16), [], [.same 1, .same 3], [], true⟩
def c100_f (j : Nat) (z : Pat) : CFn := ⟨100, c100_a, z, [⟨none, numA 0 c100_a.vs, c100_a.mem, 16, 0, c100_T0 j⟩], 0⟩
noncomputable def c100_c := mk [] (c100_f 0 c100_z0)

def c66_a : Pat := ⟨[pp 1], [.cells [pp 2], k30, .cells [sv 0, .chan (some 4)], .lst false 1 0, .cells [.map (some 6)], .mp 4 1, .lst false 27 2, .cells (svs 9 16)], 27, 3⟩
def c66_z0 : Pat := ⟨[pp 9], [.cells [pp 2], k30, .cells [sv 0, .chan (some 4)], .lst false 1 0, .cells [.map (some 6)], .mp 4 1, .lst false 27 2, .cells (svs 9 16), .cells [pp 10], .cells ([pp 11, pp 13] ++ svs 28 8 ++ [.chan (some 15), .slice (some ⟨16, 0, some 16⟩) 1 1, sv 52, sv 53]), .cells [sv 27, .chan (some 12)], .lst false 1 3, .cells [.map (some 14)], .mp 4 4, .lst false 27 5, .cells (svs 36 16)], 54, 6⟩
def c66_T0 (j : Nat) : Tr Lf := .c 0 ⟨[sv 0], [(fv 0, 1)], [.same 3, .same 4], [], true⟩ (.c 1 ⟨[], [(fv 1, 5)], [.same 5, .same 6], [], true⟩ (.e .len [fv 2] (.t (.bin .leq) [sv 29, iv 1048576] (.e .rep ([sv 29] ++ rp 4 (iv 0) ++ [nlS, iv 0, ff, iv 0, ff, iv 0, ff, iv 0, ff, iv 0, ff, iv 0, ff, iv 0, ff, iv 0, ff, iv 0, ff, iv 0, ff, ff, iv 0]) (.lf (.go 1 ⟨([sv 27] ++ svs 1 26 ++ [sv 28] ++ svs 1 8 ++ [sv 25, sv 26, sv 29, iv 0]), [(fv 3, 1), (fv 5, 5), (fv 2, 27), (fv 4, 1), (fv 6, 5), (fv 7, 27)], (sm 1 14), [], true⟩))) (.x))))
def c66_T1 (j : Nat) : Tr Lf := .t (.bin .lss) [sv 39, sv 38] (.e (.iad 27) [fv 2, sv 39] (.l 6 [true, true, true, true, false, true, true, true, true, true, true, true, true, true, true, true, true, true, true, true, true, true, true, true, true, true, true] (.c 2 ⟨(svs 40 26), [(fv 7, 2)], [], [], false⟩ (.e (.iad 27) [fv 5, sv 39] (.e (.set 27 0) ([fv 5, sv 39] ++ svs 66 4 ++ [fv 8] ++ svs 70 22) (.d (.bin .add) [sv 39, iv 1] (.lf (.go 1 ⟨(svs 0 39 ++ [sv 92]), [(fv 0, 1), (fv 1, 5), (fv 2, 27), (fv 3, 1), (fv 4, 5), (fv 10, 27)], (sm 1 14), [], true⟩)))))))) (.c 3 ⟨(svs 9 16), [], [.same 8], [], true⟩ (rv j 0 ⟨(svs 0 9 ++ svs 40 16 ++ svs 25 11 ++ svs 56 16 ++ [sv 36, sv 37]), [(fv 0, 1), (fv 1, 5), (fv 2, 27), (fv 3, 1), (fv 4, 5), (fv 5, 27)], (sm 1 8 ++ [.same 16] ++ sm 9 7), [], true⟩))
def c66_f (j : Nat) (z : Pat) : CFn := ⟨66, c66_a, z, [⟨none, numA 0 c66_a.vs, c66_a.mem, 27, 3, c66_T0 j⟩, ⟨(some [1, 1, 1, 1, 1, 0, 1, 0]), [(0, pp 1), (3, pp 9), (38, .chan (some 7)), (39, sv 38), (40, sv 39)], [.cells [pp 2], k30, .cells [sv 0, .chan (some 4)], .lst false 1 0, .cells [.map (some 6)], .mp 4 1, .lst false 27 2, .cells (svs 9 16), .cells ([pp 10, pp 12] ++ svs 28 8 ++ [.chan (some 14), .slice (some ⟨8, 0, some 16⟩) 1 1, sv 36, sv 37]), .cells [sv 27, .chan (some 11)], .lst false 1 3, .cells [.map (some 13)], .mp 4 4, .lst false 27 5], 40, 6, c66_T1 j⟩], 0⟩
noncomputable def c66_c := mkf [c97_c, c98_c, c99_c, c100_c] (c66_f 0 c66_z0)

def c67_a : Pat := ⟨[.slice (some ⟨1, 0, some 4⟩) 1 1], [.cells (svs 0 4)], 4, 0⟩
def c67_z0 : Pat := ⟨[.slice (some ⟨2, 0, some 4⟩) 1 1], [.cells (svs 0 4), .cells (svs 4 4)], 8, 0⟩
def c67_T0 (j : Nat) : Tr Lf := rv j 0 ⟨(svs 0 4 ++ svs 0 4), [], [.same 1, .same 3], [], true⟩
def c67_f (j : Nat) (z : Pat) : CFn := ⟨67, c67_a, z, [⟨none, numA 0 c67_a.vs, c67_a.mem, 4, 0, c67_T0 j⟩], 0⟩
noncomputable def c67_c := mk [] (c67_f 0 c67_z0)

def c13_a : Pat := ⟨[.slice (some ⟨1, 0, some 1⟩) 1 1, .slice (some ⟨2, 0, none⟩) 1 1], [.cells [sv 0], .cells [sv 1]], 2, 0⟩
def c13_z0 : Pat := ⟨[tt], [.cells [sv 0], .cells [sv 1]], 3, 0⟩
def c13_T0 (j : Nat) : Tr Lf := .t (.bin .neq) [sv 0, sv 1] (.x) (rv j 0 ⟨[sv 0, sv 1, tt], [], [.same 1, .same 2], [], true⟩)
def c13_f (j : Nat) (z : Pat) : CFn := ⟨13, c13_a, z, [⟨none, numA 0 c13_a.vs, c13_a.mem, 2, 0, c13_T0 j⟩], 0⟩
noncomputable def c13_c := mk [] (c13_f 0 c13_z0)

def c18_20_a : Pat := ⟨[pp 1, iv 1, .slice (some ⟨18, 0, none⟩) 9 9], [.cells [iv 0, ff, sv 0, ff, iv 67108864, ff, sv 1, sv 2, iv 1, sv 3, sv 4, pp 2, .map (some 13), nlS, iv 2, iv 2], .cells [pp 3], k41, .cells [pp 5], k26, .cells [sv 5, .chan (some 7)], .lst false 1 0, .cells [.map (some 9)], .mp 4 1, .lst false 27 2, .cells (svs 14 16), .cells (svs 32 4), .map [⟨iv 1, pp 14, 0⟩] 0, .cells [pp 15, .chan (some 17)], k60, k16, .lst false 1 3, k75], 36, 4⟩
def c18_20_z0 : Pat := ⟨[iv 0], [.cells [iv 0, ff, sv 0, ff, iv 67108864, ff, sv 1, sv 2, iv 1, sv 3, sv 4, pp 2, .map (some 13), .slice (some ⟨20, 0, some 45⟩) 1 1, iv 3, iv 2], .cells [pp 3], k41, .cells [pp 5], k26, .cells [sv 5, .chan (some 7)], .lst false 1 0, .cells [.map (some 9)], .mp 4 1, .lst false 27 2, .cells (svs 14 16), .cells (svs 32 4), .map [⟨iv 1, pp 14, 0⟩] 0, .cells [pp 15, .chan (some 17)], .cells [tt, ff, .slice (some ⟨19, 9, some 1⟩) 0 0], .dead, .lst false 1 3, k75, k75, k6], 36, 4⟩
def c18_20_T0 (j : Nat) : Tr Lf := .t (.bin .geq) [iv 0, sv 3] (.x) (rv j 0 ⟨(svs 0 36), [(fv 0, 1), (fv 1, 5), (fv 2, 27), (fv 3, 1)], (sm 1 15 ++ [.dead] ++ sm 17 3 ++ [.same 29]), [], true⟩)
def c18_20_f (j : Nat) (z : Pat) : CFn := ⟨18, c18_20_a, z, [⟨none, numA 0 c18_20_a.vs, c18_20_a.mem, 36, 4, c18_20_T0 j⟩], 0⟩
noncomputable def c18_20_c := mkf [] (c18_20_f 0 c18_20_z0)

def c52_a : Pat := ⟨[.slice (some ⟨1, 0, some 45⟩) 1 1], [k79], 44, 0⟩
def c52_z0 : Pat := ⟨[.slice (some ⟨2, 0, some 45⟩) 1 1], [k79, .cells (svs 44 11 ++ [.chan (some 3)] ++ svs 55 33), .lst false 2 0], 88, 1⟩
def c52_T0 (j : Nat) : Tr Lf := rv j 0 ⟨(svs 0 44 ++ svs 0 44), [(nlS, 2)], [.same 1, .same 3, .nil], [], true⟩
def c52_f (j : Nat) (z : Pat) : CFn := ⟨52, c52_a, z, [⟨none, numA 0 c52_a.vs, c52_a.mem, 44, 0, c52_T0 j⟩], 0⟩
noncomputable def c52_c := mkf [] (c52_f 0 c52_z0)

def c17_3_a : Pat := ⟨[pp 1], [k17, .cells [pp 3], k66, .cells [pp 5], k43, k68, .lst false 1 0, .cells [.map (some 9)], .mp 4 1, .lst false 27 2, .map [⟨iv 1, pp 12, 0⟩] 0, .cells [pp 13, nlS], .cells [tt, ff, nlS]], 13, 3⟩
def c17_3_z0 : Pat := ⟨[tt], [.cells [iv 0, ff, sv 0, ff, iv 67108864, ff, sv 1, sv 2, iv 1, sv 3, sv 4, pp 2, .map (some 11), .slice (some ⟨18, 0, some 45⟩) 1 1, iv 3, iv 2], .cells [pp 3], .cells ([pp 4, ff, tt] ++ rp 15 (ff) ++ [.slice (some ⟨15, 0, some 4⟩) 1 1]), .cells [pp 5], .cells ([pp 6, pp 8] ++ svs 6 8 ++ [.chan (some 10), .slice (some ⟨14, 0, some 16⟩) 1 1, sv 30, sv 31]), .cells [sv 5, .chan (some 7)], .lst false 1 0, .cells [.map (some 9)], .mp 4 1, .lst false 27 2, .map [⟨iv 1, pp 12, 0⟩] 0, .cells [pp 13, .chan (some 17)], k62, .cells (svs 14 16), .cells (svs 32 4), k75, .lst false 1 3, k76], 80, 4⟩
def c17_3_T0 (j : Nat) : Tr Lf := .c 0 ⟨[iv 1, iv 256, iv 0, iv 0, iv 1, iv 256, iv 0, iv 0], [(nlS, 2), (nlS, 2)], [], [], true⟩ (.c 1 ⟨(svs 0 13), [(fv 0, 1), (fv 1, 5), (fv 2, 27)], (sm 1 13 ++ [.same 263]), [], true⟩ (.c 2 ⟨(svs 14 13), [(fv 3, 1), (fv 4, 5), (fv 5, 27)], (sm 1 13 ++ [.same 264, .same 265]), [], false⟩ (.c 0 ⟨(rp 8 (iv 0)), [(nlS, 2), (nlS, 2)], [], [], true⟩ (.c 3 ⟨(svs 27 16), [(fv 6, 1), (fv 7, 5), (fv 8, 27), (fv 9, 1)], (sm 1 13 ++ [.same 264, .same 266, .same 372]), [], true⟩ (.c 4 ⟨(svs 46 16), [(fv 12, 1), (fv 13, 5), (fv 14, 27), (fv 15, 1)], (sm 1 13 ++ [.same 373, .same 266, .same 374]), [], false⟩ (.c 5 ⟨(svs 67 27), [(fv 16, 1), (fv 17, 5), (fv 18, 27)], (sm 4 7 ++ [.same 375]), [], true⟩ (.c 6 ⟨[sv 94, iv 1, iv 0, iv 1], [], [.same 376], [], true⟩ (.t (.bin .eql) [sv 156, iv 1] (.c 7 ⟨[sv 155, iv 1], [], [.same 392, .same 393], [], true⟩ (.c 8 ⟨(svs 62 5 ++ svs 97 27 ++ svs 151 4), [(fv 22, 1), (fv 23, 5), (fv 24, 27), (fv 19, 1)], (sm 1 10 ++ [.same 375, .same 376] ++ sm 11 3 ++ [.same 373, .same 377, .same 394]), [], true⟩ (.c 9 ⟨([iv 3, iv 1, iv 10, iv 5] ++ rp 8 (iv 0) ++ [ff, iv 0, ff, iv 0, ff, iv 0, ff, iv 0, ff, iv 0, ff, iv 0, ff, iv 0, ff, iv 0, ff, iv 0, ff, iv 0, ff, iv 0, ff] ++ rp 9 (iv 0)), [], [.same 396], [], true⟩ (.e (.cat 2) [nlS, fv 32] (rv j 0 ⟨(svs 162 80), [(fv 28, 1), (fv 29, 5), (fv 30, 27), (fv 31, 1)], (sm 1 13 ++ [.same 375, .same 376, .same 395, .same 377, .same 396]), [], true⟩))))) (.x)))))))))
def c17_3_f (j : Nat) (z : Pat) : CFn := ⟨17, c17_3_a, z, [⟨none, numA 0 c17_3_a.vs, c17_3_a.mem, 13, 3, c17_3_T0 j⟩], 0⟩
noncomputable def c17_3_c := mkf [c79_c, c18_18_c, c28_9_c, c18_19_c, c28_10_c, c66_c, c67_c, c13_c, c18_20_c, c52_c] (c17_3_f 0 c17_3_z0)

def c93_a : Pat := ⟨[.slice (some ⟨1, 0, some 45⟩) 1 1, .func (.func 64) ⟨[]⟩ ⟨[pp 3]⟩], [k63, .lst false 2 0, .cells [sv 44]], 45, 1⟩
def c93_z0 : Pat := ⟨[iv 0], [k63, .lst false 2 0, .cells [sv 44]], 46, 1⟩
def c93_T0 (j : Nat) : Tr Lf := .t (.bin .eql) [sv 1, sv 44] (rv j 0 ⟨(svs 0 45 ++ [iv 0]), [(fv 0, 2)], (sm 1 3), [], true⟩) (.x)
def c93_f (j : Nat) (z : Pat) : CFn := ⟨93, c93_a, z, [⟨none, numA 0 c93_a.vs, c93_a.mem, 45, 1, c93_T0 j⟩], 0⟩
noncomputable def c93_c := mkf [] (c93_f 0 c93_z0)

def c63_a : Pat := ⟨[.slice (some ⟨1, 0, some 45⟩) 1 1, .func (.func 64) ⟨[]⟩ ⟨[pp 3]⟩], [k63, .lst false 2 0, .cells [sv 44]], 45, 1⟩
def c63_z0 : Pat := ⟨[.slice (some ⟨1, 0, some 45⟩) 0 1], [k7, .lst false 2 0, .cells [sv 44]], 45, 1⟩
def c63_T0 (j : Nat) : Tr Lf := .c 0 ⟨(svs 0 45), [(fv 0, 2)], (sm 1 3), [], true⟩ (rv j 0 ⟨(rp 12 (iv 0) ++ [ff, iv 0, ff, iv 0, ff, iv 0, ff, iv 0, ff, iv 0, ff, iv 0, ff, iv 0, ff, iv 0, ff, iv 0, ff, iv 0, ff, iv 0, ff] ++ rp 9 (iv 0) ++ [sv 89]), [(fv 1, 2)], (sm 1 3), [], true⟩)
def c63_f (j : Nat) (z : Pat) : CFn := ⟨63, c63_a, z, [⟨none, numA 0 c63_a.vs, c63_a.mem, 45, 1, c63_T0 j⟩], 0⟩
noncomputable def c63_c := mkf [c93_c] (c63_f 0 c63_z0)

def c238_a : Pat := ⟨[ag (svs 0 16), sv 16], [], 17, 0⟩
def c238_z0 : Pat := ⟨[iv 0], [], 1, 0⟩
def c238_T0 (j : Nat) : Tr Lf := .t (.bin .lss) [sv 0, sv 16] (.x) (.t (.bin .gtr) [sv 0, sv 16] (.x) (rv j 0 ⟨[iv 0], [], [], [], true⟩))
def c238_f (j : Nat) (z : Pat) : CFn := ⟨238, c238_a, z, [⟨none, numA 0 c238_a.vs, c238_a.mem, 17, 0, c238_T0 j⟩], 0⟩
noncomputable def c238_c := mk [] (c238_f 0 c238_z0)

def c157_a : Pat := ⟨[pp 1, sv 27], [.cells [pp 2], k30, .cells [sv 0, .chan (some 4)], .lst false 1 0, .cells [.map (some 6)], .mp 4 1, .lst false 27 2, .cells (svs 9 16)], 28, 3⟩
def c157_z0 : Pat := ⟨[iv 0, iv 0], [.cells [pp 2], k30, .cells [sv 0, .chan (some 4)], .lst false 1 0, .cells [.map (some 6)], .mp 4 1, .lst false 27 2, .cells (svs 9 16)], 29, 3⟩
def c157_T0 (j : Nat) : Tr Lf := .c 0 ⟨(svs 9 16 ++ [sv 27]), [], [], [], true⟩ (rv j 0 ⟨(svs 0 27 ++ [iv 0, iv 0]), [(fv 0, 1), (fv 1, 5), (fv 2, 27)], (sm 1 8), [], true⟩)
def c157_f (j : Nat) (z : Pat) : CFn := ⟨157, c157_a, z, [⟨none, numA 0 c157_a.vs, c157_a.mem, 28, 3, c157_T0 j⟩], 0⟩
noncomputable def c157_c := mkf [c238_c] (c157_f 0 c157_z0)

end Go.Proofs.YtgddinljekkhdaaGreat.U
