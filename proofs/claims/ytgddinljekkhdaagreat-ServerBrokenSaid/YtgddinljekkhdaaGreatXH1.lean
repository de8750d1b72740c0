/- The law with 2 sessions: its ways. -/
import Derived.Test.YtgddinljekkhdaaGreatXG
set_option linter.unusedSimpArgs false
set_option linter.unusedVariables false
namespace Go.Proofs.YtgddinljekkhdaaGreat.U
open Go Go.Eng
set_option maxRecDepth 100000
noncomputable def q1 : List (QC Tryz.prog) := [c6v1_q, c7_2_q, c10_9_q, c10_10_q, c17_2_q, c11_4_q, c19_2_q, c10_11_q, c66_1_q, c67_1_q, awake_q, c18_16_q, c18_17_q]
theorem q1_map : q1.map QC.c = d1 := by kernel_rfl
noncomputable def qN1 : List (QC Tryz.prog) := [c61_q, c62_q]
noncomputable def qD1 : List (QC Tryz.prog) := [c63_q, c94_q]
def N1 : Tr Lf := .c 0 ⟨[iv 0, ff, sv 0, ff, iv 67108864, ff, sv 1, sv 2], [], [], [], true⟩ (.c 1 ⟨[iv 0, ff, sv 0, ff, iv 67108864, ff, sv 1, sv 2], [], [], [], true⟩ (.lf (.ret ⟨(svs 0 5 ++ svs 7 8), [(fv 0, 1), (fv 1, 5), (fv 2, 27)], ([.same 14, .same 12, .same 11] ++ sm 4 7 ++ [.same 13]), [], true⟩)))
def F1 : Tr Lf := .c 0 ⟨(svs 36 44 ++ [iv 1]), [(nlS, 2)], [.same 20, .nil, .same 24], [], true⟩ (.t (.bin .gtr) [sv 147, iv 0] (.t (.bin .leq) [sv 147, iv 16] (.t .eqi [sv 147, iv 0] (.x) (.t .eqi [sv 147, iv 1] (.c 1 ⟨(svs 32 4 ++ [sv 147] ++ svs 5 27 ++ [ff, tt, tt] ++ rp 14 (ff)), [(fv 0, 1), (fv 1, 5), (fv 2, 27)], ([.same 12, .same 27, .same 26] ++ sm 2 10), [], true⟩ (.t .eqi [sv 152, iv 0] (.x) (.t .eqi [sv 152, iv 1] (.lf (.ret ⟨(svs 0 5 ++ svs 153 28 ++ svs 182 15 ++ svs 80 4), [(fv 5, 1), (fv 6, 5), (fv 7, 27), (fv 3, 1)], (sm 1 15 ++ [.dead] ++ sm 17 5), [], true⟩)) (.x)))) (.x))) (.x)) (.x))
noncomputable def kA1 (q : QE) : Option (List Value × List Value) := evQ q1 KL A1 132 13 q
noncomputable def kB1 (q : QE) : Option (List Value × List Value) := evQ q1 KL B1 132 13 q
noncomputable def kC1 (v0 v1 v2 v3 v4 v5 v6 : Value) (q : QE) (r : Option (List Value × List Value)) : Option (List Value × List Value) := match r with
  | some (ss, ls) => bif Nat.ble (139 + ss.length) 65536 && Nat.ble (13 + ls.length) 65536 then evQ q1 KL C1 191 17 ⟨setT (setT q.s 132 [v0, v1, v2, v3, v4, v5, v6]) 139 ss, setT q.l 13 ls⟩ else none
  | none => none
noncomputable def kD1 (v0 v1 v2 v3 v4 v5 v6 : Value) (q : QE) : Option (List Value × List Value) :=
  fLs (gS q) (svs 52 80) fun st => fLs (gX q) [fv 9, fv 10, fv 11, fv 12] fun ls => kC1 v0 v1 v2 v3 v4 v5 v6 q (flatR (evQ qD1 KL F1 103 4 ⟨setT (TM.lf none) 0 (st ++ [v1, v3, v5, v6]), setT (TM.lf none) 0 ls⟩))
noncomputable def al1 (v0 v1 v2 v3 v4 v5 v6 : Value) (q : QE) : Option Bool := bif isT (kA1 q) then (bif isT (kB1 q) then (bif isT (kD1 v0 v1 v2 v3 v4 v5 v6 q) then some true else none) else none) else none
noncomputable def kN1 (v0 v1 v2 v3 v4 v5 v6 : Value) (r : Option (List Value × List Value)) : Option Bool := match r with
  | some (ss, ls) => bif Nat.ble (13 + ss.length) 65536 && Nat.ble (0 + ls.length) 65536 then evQ q1 (fun (_ : Unit) q => al1 v0 v1 v2 v3 v4 v5 v6 q) (P1 Unit (.lf ())) 26 3 ⟨setT (TM.lf none) 13 ss, setT (TM.lf none) 0 ls⟩ else none
  | none => none
/-- all ways, with a setup's numbers -/
noncomputable def go1 (G m r t : Value) (v0 v1 v2 v3 v4 v5 v6 : Value) : Option Bool :=
  kN1 v0 v1 v2 v3 v4 v5 v6 (flatR (evQ qN1 KL N1 5 0 ⟨setT (TM.lf none) 0 [G, m, r, t, iv 65536], TM.lf none⟩))
end Go.Proofs.YtgddinljekkhdaaGreat.U
