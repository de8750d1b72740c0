/- HistoryBytes: functions that it reaches, by cut points. -/
import Derived.Test.YtokaedcpmiklhaaGreatUA
set_option linter.unusedSimpArgs false
set_option linter.unusedVariables false
namespace Go.Proofs.YtokaedcpmiklhaaGreat.U
open Go Go.Eng
def oints_a : Pat := ⟨[fv 0], [], 0, 1⟩
def oints_z : Pat := ⟨[.chan (some 1)], [.lst false 1 0], 0, 1⟩
def oints_T0 : Tr Lf := .e (.lit 1) [] (.e (.cat 1) [fv 1, fv 0] (.lf (.ret ⟨[], [(fv 2, 1)], [.same 2], [], true⟩)))
def oints_k0 : Cut := ⟨none, numA 0 oints_a.vs, oints_a.mem, 0, 1, oints_T0⟩
def oints_f : CFn := ⟨13, oints_a, oints_z, [oints_k0]⟩
theorem oints_ok (u : Nat → Value) : oints_f.okU (P := Tryz.prog) [] ⟨407, 409, 1000000⟩ noPr u = true := by kernel_rfl
noncomputable def oints_c : Ctr Tryz.prog := CFn.ctr0 pok noPr_ok [] oints_f rfl oints_ok (by kernel_rfl) ⟨_, rfl, rfl, rfl, rfl, rfl, rfl⟩
def sints_a : Pat := ⟨[fv 0, fv 1], [], 0, 2⟩
def sints_z : Pat := ⟨[sv 0], [], 1, 0⟩
def sints_T0 : Tr Lf := .e .len [fv 0] (.e .len [fv 1] (.t (.bin .neq) [sv 0, sv 1] (.lf (.ret ⟨[.bool false], [], [], [], true⟩)) (.lf (.go 1 ⟨[iv 0], [(fv 0, 1), (fv 1, 1)], [], [], true⟩))))
def sints_T1 : Tr Lf := .e .len [fv 0] (.t (.bin .lss) [sv 0, sv 1] (.e (.iad 1) [fv 0, sv 0] (.l 2 [true] (.e (.iad 1) [fv 1, sv 0] (.l 3 [true] (.t (.bin .neq) [sv 2, sv 3] (.lf (.ret ⟨[.bool false], [], [], [], true⟩)) (.d (.bin .add) [sv 0, iv 1] (.lf (.go 1 ⟨[sv 4], [(fv 0, 1), (fv 1, 1)], [], [], true⟩)))))))) (.lf (.ret ⟨[.bool true], [], [], [], true⟩)))
def sints_k0 : Cut := ⟨none, numA 0 sints_a.vs, sints_a.mem, 0, 2, sints_T0⟩
def sints_k1 : Cut := ⟨(some [1, 1, 0, 1, 0]), [(0, fv 0), (1, fv 1), (5, sv 0)], [], 1, 2, sints_T1⟩
def sints_f : CFn := ⟨16, sints_a, sints_z, [sints_k0, sints_k1]⟩
theorem sints_ok (u : Nat → Value) : sints_f.okU (P := Tryz.prog) [] ⟨407, 409, 1000000⟩ noPr u = true := by kernel_rfl
noncomputable def sints_c : Ctr Tryz.prog := CFn.ctr0 pok noPr_ok [] sints_f rfl sints_ok (by kernel_rfl) ⟨_, rfl, rfl, rfl, rfl, rfl, rfl⟩
def put_a : Pat := ⟨[.chan (some 1), sv 0, sv 1], [.lst false 1 0], 2, 1⟩
def put_z : Pat := ⟨[.chan (some 2)], [.dead, .lst false 1 0], 0, 1⟩
def put_T0 : Tr Lf := .d (.bin .sub) [sv 1, iv 1] (.lf (.go 1 ⟨[sv 0, sv 2], [(fv 0, 1)], [.dead, .same 1], [], true⟩))
def put_T1 : Tr Lf := .t (.bin .geq) [sv 1, iv 0] (.d (.bin .mul) [iv 8, sv 1] (.d (.conv .u64) [sv 2] (.d (.bin .shr) [sv 0, sv 3] (.d (.conv .u8) [sv 4] (.e (.app 1) [fv 0, sv 5] (.d (.bin .sub) [sv 1, iv 1] (.lf (.go 1 ⟨[sv 0, sv 6], [(fv 1, 1)], [.dead, .same 4], [], true⟩)))))))) (.lf (.ret ⟨[], [(fv 0, 1)], [.dead, .same 2], [], true⟩))
def put_k0 : Cut := ⟨none, numA 0 put_a.vs, put_a.mem, 2, 1, put_T0⟩
def put_k1 : Cut := ⟨(some [1, 0, 1, 0]), [(0, .chan (some 2)), (1, sv 0), (7, sv 1)], [.dead, .lst false 1 0], 2, 1, put_T1⟩
def put_f : CFn := ⟨31, put_a, put_z, [put_k0, put_k1]⟩
theorem put_ok (u : Nat → Value) : put_f.okU (P := Tryz.prog) [] ⟨407, 409, 1000000⟩ noPr u = true := by kernel_rfl
noncomputable def put_c : Ctr Tryz.prog := CFn.ctr0 pok noPr_ok [] put_f rfl put_ok (by kernel_rfl) ⟨_, rfl, rfl, rfl, rfl, rfl, rfl⟩
def putNum_a : Pat := ⟨[.chan (some 1), ag [sv 0, sv 1]], [.lst false 1 0], 2, 1⟩
def putNum_z : Pat := ⟨[.chan (some 2)], [.dead, .lst false 1 0], 0, 1⟩
def putNum_T0 : Tr Lf := .d (.conv .u64) [sv 0] (.c 0 ⟨[sv 2, iv 8], [(fv 0, 1)], [.same 1], [], false⟩ (.t .truth [sv 1] (.e (.app 1) [fv 1, .int .u8 (.ofNat 1)] (.lf (.ret ⟨[], [(fv 2, 1)], [.dead, .same 5], [], true⟩))) (.e (.app 1) [fv 1, .int .u8 (.ofNat 0)] (.lf (.ret ⟨[], [(fv 2, 1)], [.dead, .same 5], [], true⟩)))))
def putNum_k0 : Cut := ⟨none, numA 0 putNum_a.vs, putNum_a.mem, 2, 1, putNum_T0⟩
def putNum_f : CFn := ⟨30, putNum_a, putNum_z, [putNum_k0]⟩
theorem putNum_ok (u : Nat → Value) : putNum_f.okU (P := Tryz.prog) [put_c] ⟨407, 409, 1000000⟩ noPr u = true := by kernel_rfl
noncomputable def putNum_c : Ctr Tryz.prog := CFn.ctr0 pok noPr_ok [put_c] putNum_f rfl putNum_ok (by kernel_rfl) ⟨_, rfl, rfl, rfl, rfl, rfl, rfl⟩
def number1_a : Pat := ⟨[sv 0, iv 1], [], 1, 0⟩
def number1_z : Pat := ⟨[sv 0], [], 1, 0⟩
def number1_T0 : Tr Lf := .d (.bin .shr) [sv 0, .int .u64 (.ofNat 8)] (.d (.conv .u8) [sv 0] (.d .bytes [sv 2] (.d (.bin .add) [.string ⟨⟨[]⟩⟩, sv 3] (.lf (.ret ⟨[sv 4], [], [], [], true⟩)))))
def number1_k0 : Cut := ⟨none, numA 0 number1_a.vs, number1_a.mem, 1, 0, number1_T0⟩
def number1_f : CFn := ⟨33, number1_a, number1_z, [number1_k0]⟩
theorem number1_ok (u : Nat → Value) : number1_f.okU (P := Tryz.prog) [] ⟨407, 409, 1000000⟩ noPr u = true := by kernel_rfl
noncomputable def number1_c : Ctr Tryz.prog := CFn.ctr0 pok noPr_ok [] number1_f rfl number1_ok (by kernel_rfl) ⟨_, rfl, rfl, rfl, rfl, rfl, rfl⟩
def number4_a : Pat := ⟨[sv 0, iv 4], [], 1, 0⟩
def number4_z : Pat := ⟨[sv 0], [], 1, 0⟩
def number4_T0 : Tr Lf := .d (.bin .shr) [sv 0, .int .u64 (.ofNat 8)] (.d (.bin .shr) [sv 1, .int .u64 (.ofNat 8)] (.d (.bin .shr) [sv 2, .int .u64 (.ofNat 8)] (.d (.bin .shr) [sv 3, .int .u64 (.ofNat 8)] (.d (.conv .u8) [sv 3] (.d .bytes [sv 5] (.d (.bin .add) [.string ⟨⟨[]⟩⟩, sv 6] (.d (.conv .u8) [sv 2] (.d .bytes [sv 8] (.d (.bin .add) [sv 7, sv 9] (.d (.conv .u8) [sv 1] (.d .bytes [sv 11] (.d (.bin .add) [sv 10, sv 12] (.d (.conv .u8) [sv 0] (.d .bytes [sv 14] (.d (.bin .add) [sv 13, sv 15] (.lf (.ret ⟨[sv 16], [], [], [], true⟩)))))))))))))))))
def number4_k0 : Cut := ⟨none, numA 0 number4_a.vs, number4_a.mem, 1, 0, number4_T0⟩
def number4_f : CFn := ⟨33, number4_a, number4_z, [number4_k0]⟩
theorem number4_ok (u : Nat → Value) : number4_f.okU (P := Tryz.prog) [] ⟨407, 409, 1000000⟩ noPr u = true := by kernel_rfl
noncomputable def number4_c : Ctr Tryz.prog := CFn.ctr0 pok noPr_ok [] number4_f rfl number4_ok (by kernel_rfl) ⟨_, rfl, rfl, rfl, rfl, rfl, rfl⟩
def number8_a : Pat := ⟨[sv 0, iv 8], [], 1, 0⟩
def number8_z : Pat := ⟨[sv 0], [], 1, 0⟩
def number8_T0 : Tr Lf := .d (.bin .shr) [sv 0, .int .u64 (.ofNat 8)] (.d (.bin .shr) [sv 1, .int .u64 (.ofNat 8)] (.d (.bin .shr) [sv 2, .int .u64 (.ofNat 8)] (.d (.bin .shr) [sv 3, .int .u64 (.ofNat 8)] (.d (.bin .shr) [sv 4, .int .u64 (.ofNat 8)] (.d (.bin .shr) [sv 5, .int .u64 (.ofNat 8)] (.d (.bin .shr) [sv 6, .int .u64 (.ofNat 8)] (.d (.bin .shr) [sv 7, .int .u64 (.ofNat 8)] (.d (.conv .u8) [sv 7] (.d .bytes [sv 9] (.d (.bin .add) [.string ⟨⟨[]⟩⟩, sv 10] (.d (.conv .u8) [sv 6] (.d .bytes [sv 12] (.d (.bin .add) [sv 11, sv 13] (.d (.conv .u8) [sv 5] (.d .bytes [sv 15] (.d (.bin .add) [sv 14, sv 16] (.d (.conv .u8) [sv 4] (.d .bytes [sv 18] (.d (.bin .add) [sv 17, sv 19] (.d (.conv .u8) [sv 3] (.d .bytes [sv 21] (.d (.bin .add) [sv 20, sv 22] (.d (.conv .u8) [sv 2] (.d .bytes [sv 24] (.d (.bin .add) [sv 23, sv 25] (.d (.conv .u8) [sv 1] (.d .bytes [sv 27] (.d (.bin .add) [sv 26, sv 28] (.d (.conv .u8) [sv 0] (.d .bytes [sv 30] (.d (.bin .add) [sv 29, sv 31] (.lf (.ret ⟨[sv 32], [], [], [], true⟩)))))))))))))))))))))))))))))))))
def number8_k0 : Cut := ⟨none, numA 0 number8_a.vs, number8_a.mem, 1, 0, number8_T0⟩
def number8_f : CFn := ⟨33, number8_a, number8_z, [number8_k0]⟩
theorem number8_ok (u : Nat → Value) : number8_f.okU (P := Tryz.prog) [] ⟨407, 409, 1000000⟩ noPr u = true := by kernel_rfl
noncomputable def number8_c : Ctr Tryz.prog := CFn.ctr0 pok noPr_ok [] number8_f rfl number8_ok (by kernel_rfl) ⟨_, rfl, rfl, rfl, rfl, rfl, rfl⟩
def num_a : Pat := ⟨[ag [sv 0, sv 1]], [], 2, 0⟩
def num_z : Pat := ⟨[sv 0], [], 1, 0⟩
def num_T0 : Tr Lf := .t .truth [sv 1] (.d (.conv .u64) [sv 0] (.c 0 ⟨[sv 2], [], [], [], true⟩ (.c 1 ⟨[.int .u64 (.ofNat 1)], [], [], [], true⟩ (.d (.bin .add) [sv 3, sv 4] (.lf (.ret ⟨[sv 5], [], [], [], true⟩)))))) (.d (.conv .u64) [sv 0] (.c 0 ⟨[sv 2], [], [], [], true⟩ (.c 1 ⟨[.int .u64 (.ofNat 0)], [], [], [], true⟩ (.d (.bin .add) [sv 3, sv 4] (.lf (.ret ⟨[sv 5], [], [], [], true⟩))))))
def num_k0 : Cut := ⟨none, numA 0 num_a.vs, num_a.mem, 2, 0, num_T0⟩
def num_f : CFn := ⟨32, num_a, num_z, [num_k0]⟩
theorem num_ok (u : Nat → Value) : num_f.okU (P := Tryz.prog) [number8_c, number1_c] ⟨407, 409, 1000000⟩ noPr u = true := by kernel_rfl
noncomputable def num_c : Ctr Tryz.prog := CFn.ctr0 pok noPr_ok [number8_c, number1_c] num_f rfl num_ok (by kernel_rfl) ⟨_, rfl, rfl, rfl, rfl, rfl, rfl⟩
def hbytes_a : Pat := ⟨[ag (svs 0 11 ++ [fv 0])], [], 11, 1⟩
def hbytes_z : Pat := ⟨[sv 0, sv 1], [], 2, 0⟩
def hbytes_T0 : Tr Lf := .c 0 ⟨(svs 0 11), [(fv 0, 0)], [], [], true⟩ (.t (.bin .neq) [sv 11, iv 0] (.lf (.ret ⟨[.string ⟨⟨[]⟩⟩, sv 11], [], [], [], true⟩)) (.c 1 ⟨[sv 0, sv 1], [(.slice none 0 0, 1)], [.nil], [], false⟩ (.c 1 ⟨[sv 2, sv 3], [(fv 1, 1)], [.same 4], [], false⟩ (.c 1 ⟨[sv 4, sv 5], [(fv 2, 1)], [.same 5], [], false⟩ (.e .len [fv 0] (.d (.conv .u64) [sv 6] (.c 2 ⟨[sv 13, iv 4], [(fv 3, 1)], [.same 6], [], false⟩ (.d (.conv .u64) [sv 7] (.c 2 ⟨[sv 14, iv 4], [(fv 4, 1)], [.same 8], [], false⟩ (.d (.conv .u64) [sv 8] (.c 2 ⟨[sv 15, iv 4], [(fv 5, 1)], [.same 9], [], false⟩ (.d (.conv .u64) [sv 9] (.c 2 ⟨[sv 16, iv 4], [(fv 6, 1)], [.same 10], [], false⟩ (.d (.conv .u64) [sv 10] (.c 2 ⟨[sv 17, iv 4], [(fv 7, 1)], [.same 11], [], false⟩ (.d (.conv .u64) [sv 12] (.c 2 ⟨[sv 18, iv 4], [(fv 8, 1)], [.same 12], [], false⟩ (.lf (.go 1 ⟨[sv 12, iv 0], [(fv 9, 1), (fv 0, 0)], [.same 13], [], true⟩)))))))))))))))))))
def hbytes_T1 : Tr Lf := .t (.bin .lss) [sv 1, sv 0] (.e (.iad 4) [fv 1, sv 1] (.l 2 [true, true, true, true] (.d (.conv .u8) [sv 2] (.d (.conv .u8) [sv 3] (.e (.app 1) [fv 0, sv 6, sv 7] (.t (.bin .eql) [sv 2, iv 3] (.d (.len true) [sv 4] (.d (.conv .u64) [sv 8] (.c 2 ⟨[sv 9, iv 4], [(fv 3, 1)], [.same 4], [], false⟩ (.e .ofs [sv 4] (.e (.cat 1) [fv 4, fv 5] (.d (.bin .add) [sv 1, iv 1] (.lf (.go 1 ⟨[sv 0, sv 10], [(fv 6, 1), (fv 1, 0)], [.same 6], [], true⟩)))))))) (.t (.bin .eql) [sv 2, iv 4] (.d (.conv .u64) [sv 5] (.c 2 ⟨[sv 8, iv 4], [(fv 3, 1)], [.same 4], [], false⟩ (.d (.bin .add) [sv 1, iv 1] (.lf (.go 1 ⟨[sv 0, sv 9], [(fv 4, 1), (fv 1, 0)], [.same 5], [], true⟩))))) (.d (.bin .add) [sv 1, iv 1] (.lf (.go 1 ⟨[sv 0, sv 8], [(fv 3, 1), (fv 1, 0)], [.same 4], [], true⟩)))))))))) (.e .tos [fv 0] (.lf (.ret ⟨[sv 2, iv 0], [], [], [], true⟩)))
def hbytes_k0 : Cut := ⟨none, numA 0 hbytes_a.vs, hbytes_a.mem, 11, 1, hbytes_T0⟩
def hbytes_k1 : Cut := ⟨(some [1, 1, 1, 1, 1, 0, 1, 0]), [(6, .chan (some 1)), (58, fv 1), (59, sv 0), (60, sv 1)], [.lst false 1 0], 2, 2, hbytes_T1⟩
def hbytes_f : CFn := ⟨17, hbytes_a, hbytes_z, [hbytes_k0, hbytes_k1]⟩
theorem hbytes_ok (u : Nat → Value) : hbytes_f.okU (P := Tryz.prog) [hchk_c, putNum_c, put_c] ⟨407, 409, 1000000⟩ noPr u = true := by kernel_rfl
noncomputable def hbytes_c : Ctr Tryz.prog := CFn.ctr0 pok noPr_ok [hchk_c, putNum_c, put_c] hbytes_f rfl hbytes_ok (by kernel_rfl) ⟨_, rfl, rfl, rfl, rfl, rfl, rfl⟩
def rbytes_a : Pat := ⟨[ag (svs 0 11 ++ [fv 0])], [], 11, 1⟩
def rbytes_z : Pat := ⟨[sv 0, sv 1], [], 2, 0⟩
def rbytes_T0 : Tr Lf := .c 0 ⟨(svs 0 11), [(fv 0, 0)], [], [], true⟩ (.t (.bin .neq) [sv 11, iv 0] (.lf (.ret ⟨[.string ⟨⟨[]⟩⟩, sv 11], [], [], [], true⟩)) (.c 1 ⟨[sv 0, sv 1], [], [], [], true⟩ (.c 1 ⟨[sv 2, sv 3], [], [], [], true⟩ (.c 1 ⟨[sv 4, sv 5], [], [], [], true⟩ (.d (.bin .add) [sv 12, sv 13] (.d (.bin .add) [sv 15, sv 14] (.e .len [fv 0] (.d (.conv .u64) [sv 6] (.c 2 ⟨[sv 18], [], [], [], true⟩ (.d (.bin .add) [sv 16, sv 19] (.d (.conv .u64) [sv 7] (.c 2 ⟨[sv 21], [], [], [], true⟩ (.d (.bin .add) [sv 20, sv 22] (.d (.conv .u64) [sv 8] (.c 2 ⟨[sv 24], [], [], [], true⟩ (.d (.bin .add) [sv 23, sv 25] (.d (.conv .u64) [sv 9] (.c 2 ⟨[sv 27], [], [], [], true⟩ (.d (.bin .add) [sv 26, sv 28] (.d (.conv .u64) [sv 10] (.c 2 ⟨[sv 30], [], [], [], true⟩ (.d (.bin .add) [sv 29, sv 31] (.d (.conv .u64) [sv 17] (.c 2 ⟨[sv 33], [], [], [], true⟩ (.d (.bin .add) [sv 32, sv 34] (.lf (.go 1 ⟨(svs 0 11 ++ [sv 35, iv 0]), [(fv 0, 0)], [.same 1], [], true⟩)))))))))))))))))))))))))))
def rbytes_T1 : Tr Lf := .e .len [fv 0] (.t (.bin .lss) [sv 12, sv 13] (.e (.iad 4) [fv 0, sv 12] (.l 1 [true, true, true, true] (.d (.conv .u64) [sv 14] (.c 3 ⟨[sv 18], [], [], [], true⟩ (.d (.conv .u64) [sv 15] (.c 3 ⟨[sv 20], [], [], [], true⟩ (.d (.bin .add) [sv 11, sv 19] (.d (.bin .add) [sv 22, sv 21] (.t (.bin .eql) [sv 14, iv 3] (.d (.len true) [sv 16] (.d (.conv .u64) [sv 24] (.c 2 ⟨[sv 25], [], [], [], true⟩ (.d (.bin .add) [sv 23, sv 26] (.d (.bin .add) [sv 27, sv 16] (.t (.bin .eql) [sv 14, iv 4] (.x) (.d (.bin .add) [sv 12, iv 1] (.lf (.go 1 ⟨(svs 0 11 ++ [sv 28, sv 29]), [(fv 0, 0)], [.same 1], [], true⟩))))))))) (.t (.bin .eql) [sv 14, iv 4] (.d (.conv .u64) [sv 17] (.c 2 ⟨[sv 24], [], [], [], true⟩ (.d (.bin .add) [sv 23, sv 25] (.d (.bin .add) [sv 12, iv 1] (.lf (.go 1 ⟨(svs 0 11 ++ [sv 26, sv 27]), [(fv 0, 0)], [.same 1], [], true⟩)))))) (.d (.bin .add) [sv 12, iv 1] (.lf (.go 1 ⟨(svs 0 11 ++ [sv 23, sv 24]), [(fv 0, 0)], [.same 1], [], true⟩))))))))))))) (.lf (.ret ⟨[sv 11, iv 0], [], [], [], true⟩)))
def rbytes_k0 : Cut := ⟨none, numA 0 rbytes_a.vs, rbytes_a.mem, 11, 1, rbytes_T0⟩
def rbytes_k1 : Cut := ⟨(some [1, 1, 1, 1, 1, 1, 0, 1, 0]), [(1, .pointer (some ⟨1, 0, none⟩)), (6, sv 11), (9, sv 12)], [.cells (svs 0 11 ++ [fv 0])], 13, 1, rbytes_T1⟩
def rbytes_f : CFn := ⟨18, rbytes_a, rbytes_z, [rbytes_k0, rbytes_k1]⟩
theorem rbytes_ok (u : Nat → Value) : rbytes_f.okU (P := Tryz.prog) [rchk_c, num_c, number4_c, number1_c] ⟨407, 409, 1000000⟩ noPr u = true := by kernel_rfl
noncomputable def rbytes_c : Ctr Tryz.prog := CFn.ctr0 pok noPr_ok [rchk_c, num_c, number4_c, number1_c] rbytes_f rfl rbytes_ok (by kernel_rfl) ⟨_, rfl, rfl, rfl, rfl, rfl, rfl⟩
end Go.Proofs.YtokaedcpmiklhaaGreat.U
