/- HistoryChecks, HistoryBytes: the laws, by cut points. -/
import Derived.Test.YtokaedcpmiklhaaGreatUC
import Derived.Test.YtokaedcpmiklhaaGreatUAw
set_option linter.unusedSimpArgs false
set_option linter.unusedVariables false
namespace Go.Proofs.YtokaedcpmiklhaaGreat.U
open Go Go.Eng
def law1_a : Pat := ⟨[ag (svs 0 11 ++ [fv 0]), ag (svs 11 11 ++ [fv 1])], [], 22, 2⟩
def law1_z : Pat := ⟨[sv 0], [], 1, 0⟩
def law1_T0 : Tr Lf := .c 0 ⟨(svs 0 11), [(fv 0, 0)], [], [], true⟩ (.t .truth [sv 22] (.c 1 ⟨[], [], [], [], true⟩ (.lf (.ret ⟨[.bool true], [], [], [], true⟩))) (.c 0 ⟨(svs 11 11), [(fv 1, 0)], [], [], true⟩ (.t .truth [sv 23] (.c 1 ⟨[], [], [], [], true⟩ (.lf (.ret ⟨[.bool true], [], [], [], true⟩))) (.c 2 ⟨(svs 0 11), [(fv 0, 0)], [], [], false⟩ (.c 2 ⟨(svs 11 11), [(fv 1, 0)], [], [], false⟩ (.c 3 ⟨(svs 24 11), [(fv 2, 4)], [], [], true⟩ (.c 4 ⟨(svs 0 11), [(fv 0, 0)], [], [], true⟩ (.t (.bin .eql) [sv 46, sv 47] (.c 5 ⟨(svs 24 22), [(fv 2, 4), (fv 3, 4)], [], [], true⟩ (.c 6 ⟨(svs 0 22), [(fv 0, 0), (fv 1, 0)], [], [], true⟩ (.t (.beq false) [sv 48, sv 49] (.c 5 ⟨(svs 24 11 ++ svs 24 11), [(fv 2, 4), (fv 2, 4)], [], [], true⟩ (.t .truth [sv 50] (.c 6 ⟨(svs 24 11 ++ svs 0 11), [(fv 2, 4), (fv 0, 0)], [], [], true⟩ (.t .truth [sv 51] (.c 6 ⟨(svs 35 11 ++ svs 11 11), [(fv 3, 4), (fv 1, 0)], [], [], true⟩ (.t .truth [sv 52] (.c 1 ⟨[], [], [], [], true⟩ (.lf (.ret ⟨[.bool true], [], [], [], true⟩))) (.lf (.ret ⟨[.bool false], [], [], [], true⟩)))) (.lf (.ret ⟨[.bool false], [], [], [], true⟩)))) (.lf (.ret ⟨[.bool false], [], [], [], true⟩)))) (.lf (.ret ⟨[.bool false], [], [], [], true⟩))))) (.lf (.ret ⟨[.bool false], [], [], [], true⟩))))))))))
def law1_k0 : Cut := ⟨none, numA 0 law1_a.vs, law1_a.mem, 22, 2, law1_T0⟩
def law1_f : CFn := ⟨3, law1_a, law1_z, [law1_k0]⟩
theorem law1_ok (u : Nat → Value) : law1_f.okU (P := Tryz.prog) [long_c, awake_c, own_c, hchk_c, rchk_c, hsame_c, rsame_c] ⟨407, 409, 1000000⟩ noPr u = true := by kernel_rfl
noncomputable def law1_c : Ctr Tryz.prog := CFn.ctr0 pok noPr_ok [long_c, awake_c, own_c, hchk_c, rchk_c, hsame_c, rsame_c] law1_f rfl law1_ok (by kernel_rfl) ⟨_, rfl, rfl, rfl, rfl, rfl, rfl⟩
def law3_a : Pat := ⟨[ag (svs 0 11 ++ [fv 0])], [], 11, 1⟩
def law3_z : Pat := ⟨[sv 0], [], 1, 0⟩
def law3_T0 : Tr Lf := .c 0 ⟨(svs 0 11), [(fv 0, 0)], [], [], true⟩ (.t .truth [sv 11] (.c 1 ⟨[], [], [], [], true⟩ (.lf (.ret ⟨[.bool true], [], [], [], true⟩))) (.c 2 ⟨(svs 0 11), [(fv 0, 0)], [], [], false⟩ (.c 3 ⟨(svs 12 11), [(fv 1, 4)], [], [], true⟩ (.c 4 ⟨(svs 0 11), [(fv 0, 0)], [], [], true⟩ (.t (.bin .eql) [sv 23, sv 25] (.t (.bin .eql) [sv 24, sv 26] (.c 5 ⟨(svs 12 11 ++ svs 0 11), [(fv 1, 4), (fv 0, 0)], [], [], true⟩ (.t .truth [sv 27] (.c 1 ⟨[], [], [], [], true⟩ (.lf (.ret ⟨[.bool true], [], [], [], true⟩))) (.lf (.ret ⟨[.bool false], [], [], [], true⟩)))) (.lf (.ret ⟨[.bool false], [], [], [], true⟩))) (.lf (.ret ⟨[.bool false], [], [], [], true⟩)))))))
def law3_k0 : Cut := ⟨none, numA 0 law3_a.vs, law3_a.mem, 11, 1, law3_T0⟩
def law3_f : CFn := ⟨5, law3_a, law3_z, [law3_k0]⟩
theorem law3_ok (u : Nat → Value) : law3_f.okU (P := Tryz.prog) [long_c, awake_c, own_c, hbytes_c, rbytes_c, rsame_c] ⟨407, 409, 1000000⟩ noPr u = true := by kernel_rfl
noncomputable def law3_c : Ctr Tryz.prog := CFn.ctr0 pok noPr_ok [long_c, awake_c, own_c, hbytes_c, rbytes_c, rsame_c] law3_f rfl law3_ok (by kernel_rfl) ⟨_, rfl, rfl, rfl, rfl, rfl, rfl⟩
end Go.Proofs.YtokaedcpmiklhaaGreat.U
