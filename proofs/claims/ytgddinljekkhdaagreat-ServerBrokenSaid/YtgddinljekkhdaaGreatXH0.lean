/- The law with 1 sessions: its ways. -/
import Derived.Test.YtgddinljekkhdaaGreatXG
set_option linter.unusedSimpArgs false
set_option linter.unusedVariables false
namespace Go.Proofs.YtgddinljekkhdaaGreat.U
open Go Go.Eng
set_option maxRecDepth 100000
noncomputable def q0 : List (QC Tryz.prog) := [c6v0_q, c7_3_q, c10_12_q, c17_3_q, c11_6_q, c19_3_q, c10_13_q, c66_1_q, c67_1_q, awake_q, c18_22_q, c18_23_q]
theorem q0_map : q0.map QC.c = d0 := by kernel_rfl
noncomputable def qN0 : List (QC Tryz.prog) := [c61_q, c62_q]
noncomputable def qD0 : List (QC Tryz.prog) := [c63_q, c94_q]
def N0 : Tr Lf := .c 0 ⟨[iv 0, ff, sv 0, ff, iv 67108864, ff, sv 1, sv 2], [], [], [], true⟩ (.c 1 ⟨[iv 0, ff, sv 0, ff, iv 67108864, ff, sv 1, sv 2], [], [], [], true⟩ (.lf (.ret ⟨(svs 0 5 ++ svs 7 8), [(fv 0, 1), (fv 1, 5), (fv 2, 27)], ([.same 14, .same 12, .same 11] ++ sm 4 7 ++ [.same 13]), [], true⟩)))
def F0 : Tr Lf := .c 0 ⟨(svs 36 44 ++ [iv 1]), [(nlS, 2)], [.same 18, .nil, .same 22], [], true⟩ (.t (.bin .gtr) [sv 147, iv 0] (.t (.bin .leq) [sv 147, iv 16] (.t .eqi [sv 147, iv 0] (.x) (.t .eqi [sv 147, iv 1] (.c 1 ⟨(svs 32 4 ++ [sv 147] ++ svs 5 27 ++ [ff, tt] ++ rp 15 (ff)), [(fv 0, 1), (fv 1, 5), (fv 2, 27)], ([.same 12, .same 25, .same 24] ++ sm 2 10), [], true⟩ (.t .eqi [sv 152, iv 0] (.x) (.t .eqi [sv 152, iv 1] (.lf (.ret ⟨(svs 0 5 ++ svs 153 28 ++ svs 182 15 ++ svs 80 4), [(fv 5, 1), (fv 6, 5), (fv 7, 27), (fv 3, 1)], (sm 1 15 ++ [.dead] ++ sm 17 3), [], true⟩)) (.x)))) (.x))) (.x)) (.x))
noncomputable def kA0 (q : QE) : Option (List Value × List Value) := evQ q0 KL A0 119 10 q
noncomputable def kB0 (q : QE) : Option (List Value × List Value) := evQ q0 KL B0 119 10 q
noncomputable def kC0 (v0 v1 v2 v3 v4 v5 v6 : Value) (q : QE) (r : Option (List Value × List Value)) : Option (List Value × List Value) := match r with
  | some (ss, ls) => bif Nat.ble (126 + ss.length) 65536 && Nat.ble (10 + ls.length) 65536 then evQ q0 KL C0 178 14 ⟨setT (setT q.s 119 [v0, v1, v2, v3, v4, v5, v6]) 126 ss, setT q.l 10 ls⟩ else none
  | none => none
noncomputable def kD0 (v0 v1 v2 v3 v4 v5 v6 : Value) (q : QE) : Option (List Value × List Value) :=
  fLs (gS q) (svs 39 80) fun st => fLs (gX q) [fv 6, fv 7, fv 8, fv 9] fun ls => kC0 v0 v1 v2 v3 v4 v5 v6 q (flatR (evQ qD0 KL F0 103 4 ⟨setT (TM.lf none) 0 (st ++ [v1, v3, v5, v6]), setT (TM.lf none) 0 ls⟩))
noncomputable def al0 (v0 v1 v2 v3 v4 v5 v6 : Value) (q : QE) : Option Bool := bif isT (kA0 q) then (bif isT (kB0 q) then (bif isT (kD0 v0 v1 v2 v3 v4 v5 v6 q) then some true else none) else none) else none
noncomputable def kN0 (v0 v1 v2 v3 v4 v5 v6 : Value) (r : Option (List Value × List Value)) : Option Bool := match r with
  | some (ss, ls) => bif Nat.ble (13 + ss.length) 65536 && Nat.ble (0 + ls.length) 65536 then evQ q0 (fun (_ : Unit) q => al0 v0 v1 v2 v3 v4 v5 v6 q) (P0 Unit (.lf ())) 26 3 ⟨setT (TM.lf none) 13 ss, setT (TM.lf none) 0 ls⟩ else none
  | none => none
/-- all ways, with a setup's numbers -/
noncomputable def go0 (G m r t : Value) (v0 v1 v2 v3 v4 v5 v6 : Value) : Option Bool :=
  kN0 v0 v1 v2 v3 v4 v5 v6 (flatR (evQ qN0 KL N0 5 0 ⟨setT (TM.lf none) 0 [G, m, r, t, iv 65536], TM.lf none⟩))
end Go.Proofs.YtgddinljekkhdaaGreat.U
