/- The law with 3 sessions: its ways. -/
import Derived.Test.YtgddinljekkhdaaGreatXG
set_option linter.unusedSimpArgs false
set_option linter.unusedVariables false
namespace Go.Proofs.YtgddinljekkhdaaGreat.U
open Go Go.Eng
set_option maxRecDepth 100000
noncomputable def q2 : List (QC Tryz.prog) := [c6v2_q, c7_1_q, c10_5_q, c10_6_q, c10_7_q, c17_1_q, c11_2_q, c19_1_q, c10_8_q, c66_1_q, c67_1_q, awake_q, c18_10_q, c18_11_q]
theorem q2_map : q2.map QC.c = d2 := by kernel_rfl
noncomputable def qN2 : List (QC Tryz.prog) := [c61_q, c62_q]
noncomputable def qD2 : List (QC Tryz.prog) := [c63_q, c94_q]
def N2 : Tr Lf := .c 0 ⟨[iv 0, ff, sv 0, ff, iv 67108864, ff, sv 1, sv 2], [], [], [], true⟩ (.c 1 ⟨[iv 0, ff, sv 0, ff, iv 67108864, ff, sv 1, sv 2], [], [], [], true⟩ (.lf (.ret ⟨(svs 0 5 ++ svs 7 8), [(fv 0, 1), (fv 1, 5), (fv 2, 27)], ([.same 14, .same 12, .same 11] ++ sm 4 7 ++ [.same 13]), [], true⟩)))
def F2 : Tr Lf := .c 0 ⟨(svs 36 44 ++ [iv 1]), [(nlS, 2)], [.same 22, .nil, .same 26], [], true⟩ (.t (.bin .gtr) [sv 147, iv 0] (.t (.bin .leq) [sv 147, iv 16] (.t .eqi [sv 147, iv 0] (.x) (.t .eqi [sv 147, iv 1] (.c 1 ⟨(svs 32 4 ++ [sv 147] ++ svs 5 27 ++ [ff, tt, tt, tt] ++ rp 13 (ff)), [(fv 0, 1), (fv 1, 5), (fv 2, 27)], ([.same 12, .same 29, .same 28] ++ sm 2 10), [], true⟩ (.t .eqi [sv 152, iv 0] (.x) (.t .eqi [sv 152, iv 1] (.lf (.ret ⟨(svs 0 5 ++ svs 153 28 ++ svs 182 15 ++ svs 80 4), [(fv 5, 1), (fv 6, 5), (fv 7, 27), (fv 3, 1)], (sm 1 15 ++ [.dead] ++ sm 17 7), [], true⟩)) (.x)))) (.x))) (.x)) (.x))
noncomputable def kA2 (q : QE) : Option (List Value × List Value) := evQ q2 KL A2 145 16 q
noncomputable def kB2 (q : QE) : Option (List Value × List Value) := evQ q2 KL B2 145 16 q
noncomputable def kC2 (v0 v1 v2 v3 v4 v5 v6 : Value) (q : QE) (r : Option (List Value × List Value)) : Option (List Value × List Value) := match r with
  | some (ss, ls) => bif Nat.ble (152 + ss.length) 65536 && Nat.ble (16 + ls.length) 65536 then evQ q2 KL C2 204 20 ⟨setT (setT q.s 145 [v0, v1, v2, v3, v4, v5, v6]) 152 ss, setT q.l 16 ls⟩ else none
  | none => none
noncomputable def kD2 (v0 v1 v2 v3 v4 v5 v6 : Value) (q : QE) : Option (List Value × List Value) :=
  fLs (gS q) (svs 65 80) fun st => fLs (gX q) [fv 12, fv 13, fv 14, fv 15] fun ls => kC2 v0 v1 v2 v3 v4 v5 v6 q (flatR (evQ qD2 KL F2 103 4 ⟨setT (TM.lf none) 0 (st ++ [v1, v3, v5, v6]), setT (TM.lf none) 0 ls⟩))
noncomputable def al2 (v0 v1 v2 v3 v4 v5 v6 : Value) (q : QE) : Option Bool := bif isT (kA2 q) then (bif isT (kB2 q) then (bif isT (kD2 v0 v1 v2 v3 v4 v5 v6 q) then some true else none) else none) else none
noncomputable def kN2 (v0 v1 v2 v3 v4 v5 v6 : Value) (r : Option (List Value × List Value)) : Option Bool := match r with
  | some (ss, ls) => bif Nat.ble (13 + ss.length) 65536 && Nat.ble (0 + ls.length) 65536 then evQ q2 (fun (_ : Unit) q => al2 v0 v1 v2 v3 v4 v5 v6 q) (P2 Unit (.lf ())) 26 3 ⟨setT (TM.lf none) 13 ss, setT (TM.lf none) 0 ls⟩ else none
  | none => none
/-- all ways, with a setup's numbers -/
noncomputable def go2 (G m r t : Value) (v0 v1 v2 v3 v4 v5 v6 : Value) : Option Bool :=
  kN2 v0 v1 v2 v3 v4 v5 v6 (flatR (evQ qN2 KL N2 5 0 ⟨setT (TM.lf none) 0 [G, m, r, t, iv 65536], TM.lf none⟩))
end Go.Proofs.YtgddinljekkhdaaGreat.U
