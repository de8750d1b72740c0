/- HistoryRead, HistoryBack: the laws, by cut points. -/
import Derived.Test.YtfcjlgdpdomoeaaGreatUB
import Derived.Test.YtfcjlgdpdomoeaaGreatUAw
set_option linter.unusedSimpArgs false
set_option linter.unusedVariables false
namespace Go.Proofs.YtfcjlgdpdomoeaaGreat.U
open Go Go.Eng
def law1_a : Pat := ⟨[sv 0], [], 1, 0⟩
def law1_z : Pat := ⟨[sv 0], [], 1, 0⟩
def law1_T0 : Tr Lf := .d (.len true) [sv 0] (.t (.bin .gtr) [sv 1, iv 1000] (.c 0 ⟨[], [], [], [], true⟩ (.lf (.ret ⟨[.bool true], [], [], [], true⟩))) (.c 1 ⟨[sv 0], [], [], [], false⟩ (.t (.bin .neq) [sv 13, iv 0] (.e .len [fv 0] (.t (.bin .eql) [sv 14, iv 0] (.c 0 ⟨[], [], [], [], true⟩ (.lf (.ret ⟨[.bool true], [], [], [], true⟩))) (.lf (.ret ⟨[.bool false], [], [], [], true⟩)))) (.c 2 ⟨(svs 2 11), [(fv 0, 4)], [], [], true⟩ (.t (.bin .eql) [sv 15, iv 0] (.t (.bin .eql) [sv 14, sv 0] (.c 0 ⟨[], [], [], [], true⟩ (.lf (.ret ⟨[.bool true], [], [], [], true⟩))) (.lf (.ret ⟨[.bool false], [], [], [], true⟩))) (.lf (.ret ⟨[.bool false], [], [], [], true⟩)))))))
def law1_k0 : Cut := ⟨none, numA 0 law1_a.vs, law1_a.mem, 1, 0, law1_T0⟩
def law1_f : CFn := ⟨3, law1_a, law1_z, [law1_k0], 0⟩
theorem law1_ok (u : Nat → Value) : law1_f.okU (P := Tryz.prog) [awake_c, read_c, hbytes_c] ⟨422, 424, 1000000⟩ noPr u = true := by kernel_rfl
noncomputable def law1_c : Ctr Tryz.prog := CFn.ctr0 pok noPr_ok [awake_c, read_c, hbytes_c] law1_f rfl law1_ok (by kernel_rfl) ⟨_, rfl, rfl, rfl, rfl, rfl, rfl⟩ (.inl rfl)
def law2_a : Pat := ⟨[sv 0, sv 1, fv 0, sv 2, sv 3], [], 4, 1⟩
def law2_z : Pat := ⟨[sv 0], [], 1, 0⟩
def law2_T0 : Tr Lf := .e .len [fv 0] (.t (.bin .gtr) [sv 4, iv 30] (.c 0 ⟨[], [], [], [], true⟩ (.lf (.ret ⟨[.bool true], [], [], [], true⟩))) (.c 1 ⟨[sv 1, iv 65536], [], [], [], true⟩ (.d (.bin .add) [iv 1, sv 5] (.c 2 ⟨[sv 0, sv 6], [(fv 0, 1)], [], [], false⟩ (.c 3 ⟨(svs 7 11), [(fv 1, 4)], [], [], true⟩ (.t (.bin .neq) [sv 19, iv 0] (.lf (.ret ⟨[.bool false], [], [], [], true⟩)) (.c 4 ⟨(svs 7 11), [(fv 1, 4)], [], [], true⟩ (.t (.bin .neq) [sv 20, iv 0] (.lf (.ret ⟨[.bool false], [], [], [], true⟩)) (.c 5 ⟨[sv 18], [], [], [], false⟩ (.c 3 ⟨(svs 21 11), [(fv 2, 4)], [], [], true⟩ (.t (.bin .neq) [sv 32, iv 0] (.lf (.ret ⟨[.bool false], [], [], [], true⟩)) (.c 6 ⟨(svs 21 11 ++ svs 7 11), [(fv 2, 4), (fv 1, 4)], [], [], true⟩ (.d (.un .not) [sv 35] (.t .truth [sv 36] (.lf (.ret ⟨[.bool false], [], [], [], true⟩)) (.t (.bin .neq) [sv 34, iv 0] (.lf (.ret ⟨[.bool false], [], [], [], true⟩)) (.t (.bin .neq) [sv 33, sv 18] (.lf (.ret ⟨[.bool false], [], [], [], true⟩)) (.d .bytes [sv 3] (.d (.bin .add) [sv 18, sv 37] (.c 5 ⟨[sv 38], [], [], [], false⟩ (.d (.len true) [sv 18] (.d (.mm true) [iv 1, sv 51] (.c 1 ⟨[sv 2, sv 52], [], [], [], true⟩ (.d (.ssub false true) [sv 18, iv 0, sv 53] (.c 5 ⟨[sv 54], [], [], [], false⟩ (.t (.bin .eql) [sv 50, iv 6] (.t (.bin .eql) [sv 66, iv 7] (.c 0 ⟨[], [], [], [], true⟩ (.lf (.ret ⟨[.bool true], [], [], [], true⟩))) (.lf (.ret ⟨[.bool false], [], [], [], true⟩))) (.lf (.ret ⟨[.bool false], [], [], [], true⟩)))))))))))))))))))))))))))
def law2_k0 : Cut := ⟨none, numA 0 law2_a.vs, law2_a.mem, 4, 1, law2_T0⟩
def law2_f : CFn := ⟨4, law2_a, law2_z, [law2_k0], 0⟩
theorem law2_ok (u : Nat → Value) : law2_f.okU (P := Tryz.prog) [awake_c, mod_c, scene_c, hbytes_c, hchk_c, read_c, hsame_c] ⟨422, 424, 1000000⟩ noPr u = true := by kernel_rfl
noncomputable def law2_c : Ctr Tryz.prog := CFn.ctr0 pok noPr_ok [awake_c, mod_c, scene_c, hbytes_c, hchk_c, read_c, hsame_c] law2_f rfl law2_ok (by kernel_rfl) ⟨_, rfl, rfl, rfl, rfl, rfl, rfl⟩ (.inl rfl)
end Go.Proofs.YtfcjlgdpdomoeaaGreat.U
