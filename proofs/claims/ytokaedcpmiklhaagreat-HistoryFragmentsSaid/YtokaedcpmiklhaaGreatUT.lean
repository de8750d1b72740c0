/- HistoryFragments: the law, by cut points. -/
import Derived.Test.YtokaedcpmiklhaaGreatUR
set_option linter.unusedSimpArgs false
set_option linter.unusedVariables false
namespace Go.Proofs.YtokaedcpmiklhaaGreat.U
open Go Go.Eng
/-- an answer whose lists hold scalars alone -/
def flatG (x : Option (List Value × List Value)) : Option (List Value × List Value) := match x with
  | some (a, b) => bif b.all flatV then some (a, b) else none
  | none => none
theorem flatG_some {x : Option (List Value × List Value)} {rs : List Value × List Value} (h : flatG x = some rs) : x = some rs ∧ rs.2.all flatV = true := by
  unfold flatG at h
  split at h
  · rename_i a b
    cases hb : b.all flatV with
    | true => rw [hb] at h; cases h; exact ⟨rfl, hb⟩
    | false => rw [hb] at h; cases h
  · cases h
theorem flatG_is {a b : List Value} (h : b.all flatV = true) : flatG (some (a, b)) = some (a, b) := by
  show (bif b.all flatV then some (a, b) else none) = _
  rw [h]
  rfl
noncomputable def flatC {P : Program} (c : Ctr P) : Ctr P := Ctr.as c true (fun ss ls => flatG (c.F ss ls)) (fun _ _ _ h => (flatG_some h).1) fun _ _ _ _ h _ => (flatG_some h).2
noncomputable def hfragF_c : Ctr Tryz.prog := flatC hfrag_c
noncomputable def rfragF_c : Ctr Tryz.prog := flatC rfrag_c
def law2_a : Pat := ⟨[ag (svs 0 11 ++ [fv 0]), fv 1], [], 11, 2⟩
def law2_z : Pat := ⟨[sv 0], [], 1, 0⟩
def law2_T0 : Tr Lf := .c 0 ⟨(svs 0 11), [(fv 0, 0)], [], [], true⟩ (.t .truth [sv 11] (.c 1 ⟨[], [], [], [], true⟩ (.lf (.ret ⟨[.bool true], [], [], [], true⟩))) (.e .len [fv 1] (.t (.bin .gtr) [sv 12, iv 40] (.c 1 ⟨[], [], [], [], true⟩ (.lf (.ret ⟨[.bool true], [], [], [], true⟩))) (.c 2 ⟨(svs 0 11), [(fv 0, 0)], [], [], false⟩ (.c 3 ⟨[], [(fv 1, 1)], [], [], false⟩ (.c 4 ⟨(svs 13 11), [(fv 2, 4), (fv 3, 1)], [], [], true⟩ (.c 5 ⟨(svs 0 11), [(fv 0, 0), (fv 1, 1)], [], [], true⟩ (.c 6 ⟨(svs 24 11 ++ svs 36 11), [(fv 4, 4), (fv 5, 4)], [], [], true⟩ (.d (.un .not) [sv 48] (.t .truth [sv 49] (.lf (.ret ⟨[.bool false], [], [], [], true⟩)) (.t (.bin .neq) [sv 35, sv 47] (.lf (.ret ⟨[.bool false], [], [], [], true⟩)) (.c 7 ⟨[], [(fv 3, 1), (fv 1, 1)], [], [], true⟩ (.d (.un .not) [sv 50] (.t .truth [sv 51] (.lf (.ret ⟨[.bool false], [], [], [], true⟩)) (.lf (.go 1 ⟨(svs 13 22 ++ svs 36 11 ++ [iv 0]), [(fv 2, 4), (fv 4, 4), (fv 5, 4)], [.same 4, .same 2, .same 6, .same 5, .same 8, .same 7], [], true⟩))))))))))))))))
def law2_T1 : Tr Lf := .e .len [fv 0] (.t (.bin .lss) [sv 33, sv 34] (.e (.iad 4) [fv 0, sv 33] (.e (.fad 3) [fv 3] (.l 4 [true] (.d (.bin .add) [sv 35, iv 1] (.e (.set 4 3) [fv 0, sv 33, sv 36] (.d (.bin .add) [sv 33, iv 1] (.lf (.go 1 ⟨(svs 0 33 ++ [sv 37]), [(fv 5, 4), (fv 1, 4), (fv 2, 4)], [.same 1, .same 2, .same 3, .same 4, .same 5, .same 6], [], true⟩)))))))) (.c 6 ⟨(svs 11 22), [(fv 1, 4), (fv 2, 4)], [], [], true⟩ (.t .truth [sv 35] (.c 1 ⟨[], [], [], [], true⟩ (.lf (.ret ⟨[.bool true], [], [], [], true⟩))) (.lf (.ret ⟨[.bool false], [], [], [], true⟩)))))
def law2_k0 : Cut := ⟨none, numA 0 law2_a.vs, law2_a.mem, 11, 2, law2_T0⟩
def law2_k1 : Cut := ⟨(some [1, 1, 1, 1, 1, 1, 0, 1, 0]), [(5, .pointer (some ⟨1, 0, none⟩)), (7, .pointer (some ⟨3, 0, none⟩)), (9, .pointer (some ⟨5, 0, none⟩)), (11, sv 33)], [.cells (svs 0 11 ++ [.chan (some 2)]), .lst false 4 0, .cells (svs 11 11 ++ [.chan (some 4)]), .lst false 4 1, .cells (svs 22 11 ++ [.chan (some 6)]), .lst false 4 2], 34, 3, law2_T1⟩
def law2_f : CFn := ⟨4, law2_a, law2_z, [law2_k0, law2_k1]⟩
theorem law2_ok (u : Nat → Value) : law2_f.okU (P := Tryz.prog) [long_c, awake_c, own_c, oints_c, hfragF_c, rfragF_c, rsame_c, sints_c] ⟨407, 409, 1000000⟩ noPr u = true := by kernel_rfl
noncomputable def law2_c : Ctr Tryz.prog := CFn.ctr0 pok noPr_ok [long_c, awake_c, own_c, oints_c, hfragF_c, rfragF_c, rsame_c, sints_c] law2_f rfl law2_ok (by kernel_rfl) ⟨_, rfl, rfl, rfl, rfl, rfl, rfl⟩
end Go.Proofs.YtokaedcpmiklhaaGreat.U
