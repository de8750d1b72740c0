/- The law with 4 sessions: its ways. -/
import Derived.Test.YtgddinljekkhdaaGreatXG
set_option linter.unusedSimpArgs false
set_option linter.unusedVariables false
namespace Go.Proofs.YtgddinljekkhdaaGreat.U
open Go Go.Eng
set_option maxRecDepth 100000
noncomputable def q3 : List (QC Tryz.prog) := [c6v3_q, c7_q, c10_q, c10_1_q, c10_2_q, c10_3_q, c17_q, c11_q, c19_q, c10_4_q, c66_1_q, c67_1_q, awake_q, c18_4_q, c18_5_q]
theorem q3_map : q3.map QC.c = d3 := by kernel_rfl
noncomputable def qN3 : List (QC Tryz.prog) := [c61_q, c62_q]
noncomputable def qD3 : List (QC Tryz.prog) := [c63_q, c94_q]
def N3 : Tr Lf := .c 0 ⟨[iv 0, ff, sv 0, ff, iv 67108864, ff, sv 1, sv 2], [], [], [], true⟩ (.c 1 ⟨[iv 0, ff, sv 0, ff, iv 67108864, ff, sv 1, sv 2], [], [], [], true⟩ (.lf (.ret ⟨(svs 0 5 ++ svs 7 8), [(fv 0, 1), (fv 1, 5), (fv 2, 27)], ([.same 14, .same 12, .same 11] ++ sm 4 7 ++ [.same 13]), [], true⟩)))
def F3 : Tr Lf := .c 0 ⟨(svs 36 44 ++ [iv 1]), [(nlS, 2)], [.same 24, .nil, .same 28], [], true⟩ (.t (.bin .gtr) [sv 147, iv 0] (.t (.bin .leq) [sv 147, iv 16] (.t .eqi [sv 147, iv 0] (.x) (.t .eqi [sv 147, iv 1] (.c 1 ⟨(svs 32 4 ++ [sv 147] ++ svs 5 27 ++ [ff] ++ rp 4 (tt) ++ rp 12 (ff)), [(fv 0, 1), (fv 1, 5), (fv 2, 27)], ([.same 12, .same 31, .same 30] ++ sm 2 10), [], true⟩ (.t .eqi [sv 152, iv 0] (.x) (.t .eqi [sv 152, iv 1] (.lf (.ret ⟨(svs 0 5 ++ svs 153 28 ++ svs 182 15 ++ svs 80 4), [(fv 5, 1), (fv 6, 5), (fv 7, 27), (fv 3, 1)], (sm 1 15 ++ [.dead] ++ sm 17 9), [], true⟩)) (.x)))) (.x))) (.x)) (.x))
noncomputable def kA3 (q : QE) : Option (List Value × List Value) := evQ q3 KL A3 158 19 q
noncomputable def kB3 (q : QE) : Option (List Value × List Value) := evQ q3 KL B3 158 19 q
noncomputable def kC3 (v0 v1 v2 v3 v4 v5 v6 : Value) (q : QE) (r : Option (List Value × List Value)) : Option (List Value × List Value) := match r with
  | some (ss, ls) => bif Nat.ble (165 + ss.length) 65536 && Nat.ble (19 + ls.length) 65536 then evQ q3 KL C3 217 23 ⟨setT (setT q.s 158 [v0, v1, v2, v3, v4, v5, v6]) 165 ss, setT q.l 19 ls⟩ else none
  | none => none
noncomputable def kD3 (v0 v1 v2 v3 v4 v5 v6 : Value) (q : QE) : Option (List Value × List Value) :=
  fLs (gS q) (svs 78 80) fun st => fLs (gX q) [fv 15, fv 16, fv 17, fv 18] fun ls => kC3 v0 v1 v2 v3 v4 v5 v6 q (flatR (evQ qD3 KL F3 103 4 ⟨setT (TM.lf none) 0 (st ++ [v1, v3, v5, v6]), setT (TM.lf none) 0 ls⟩))
noncomputable def al3 (v0 v1 v2 v3 v4 v5 v6 : Value) (q : QE) : Option Bool := bif isT (kA3 q) then (bif isT (kB3 q) then (bif isT (kD3 v0 v1 v2 v3 v4 v5 v6 q) then some true else none) else none) else none
noncomputable def kN3 (v0 v1 v2 v3 v4 v5 v6 : Value) (r : Option (List Value × List Value)) : Option Bool := match r with
  | some (ss, ls) => bif Nat.ble (13 + ss.length) 65536 && Nat.ble (0 + ls.length) 65536 then evQ q3 (fun (_ : Unit) q => al3 v0 v1 v2 v3 v4 v5 v6 q) (P3 Unit (.lf ())) 26 3 ⟨setT (TM.lf none) 13 ss, setT (TM.lf none) 0 ls⟩ else none
  | none => none
/-- all ways, with a setup's numbers -/
noncomputable def go3 (G m r t : Value) (v0 v1 v2 v3 v4 v5 v6 : Value) : Option Bool :=
  kN3 v0 v1 v2 v3 v4 v5 v6 (flatR (evQ qN3 KL N3 5 0 ⟨setT (TM.lf none) 0 [G, m, r, t, iv 65536], TM.lf none⟩))
end Go.Proofs.YtgddinljekkhdaaGreat.U
