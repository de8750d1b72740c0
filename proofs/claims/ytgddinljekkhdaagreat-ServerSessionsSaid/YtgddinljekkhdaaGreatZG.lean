/- New: what it answers at every setup. -/
import Derived.Test.YtgddinljekkhdaaGreatZF
set_option linter.unusedSimpArgs false
set_option linter.unusedVariables false
namespace Go.Proofs.YtgddinljekkhdaaGreat.U
open Go Go.Eng
set_option maxRecDepth 100000
theorem cmpL (a c : Nat) : sev (.bin .lss) [.int .i64 (a : Int), .int .i64 (.ofNat c)] = some (.bool (decide (a < c))) := by
  show some (Value.bool (decide ((a : Int) < (c : Int)))) = _
  congr 2
  exact decide_eq_decide.2 (by omega)
theorem cmpG (a c : Nat) : sev (.bin .gtr) [.int .i64 (a : Int), .int .i64 (.ofNat c)] = some (.bool (decide (c < a))) := by
  show some (Value.bool (decide ((a : Int) > (c : Int)))) = _
  congr 2
  exact decide_eq_decide.2 (by omega)
def NT : Tr Lf := .c 0 ⟨[iv 0, ff, sv 0, ff, iv 67108864, ff, sv 1, sv 2], [], [], [], true⟩ (.c 1 ⟨[iv 0, ff, sv 0, ff, iv 67108864, ff, sv 1, sv 2], [], [], [], true⟩ (.lf (.ret ⟨(svs 0 5 ++ svs 7 8), [(fv 0, 1), (fv 1, 5), (fv 2, 27)], ([.same 14, .same 12, .same 11] ++ sm 4 7 ++ [.same 13]), [], true⟩)))
def KR (l : Lf) (env : Env) : Option (List Value × List Value) := match l with
  | .ret a => some (a.ss.map (den env.s), a.ls.map fun y => denX env.s env.l y.1)
  | .go _ _ => none
theorem evK_KR {cs : List (Ctr Tryz.prog)} {F : CFn} {k n m : Nat} {T : Tr Lf} {env : Env} {r : List Value × List Value} (h : evK cs KR T n m env = some r) : evK cs (F.K cs k) T n m env = some r := by
  rw [evK_eq] at h ⊢
  cases he : ev cs T n m env with
  | none => rw [he] at h; cases h
  | some q =>
    obtain ⟨l, e⟩ := q
    rw [he] at h
    cases l with
    | ret a => exact h
    | go => cases h
def nwS (G m r t : Value) : List Value := [G, m, r, t, iv 100, iv 0, ff, G, ff, iv 67108864, ff, m, r]
theorem nw011 (t : Value) : evK [c61_c, c62_c] KR NT 5 0 (envL [(iv 0), (.int .i64 ((1 : Nat) : Int)), (.int .i64 ((1 : Nat) : Int)), t, iv 100] []) = some (nwS (iv 0) (.int .i64 ((1 : Nat) : Int)) (.int .i64 ((1 : Nat) : Int)) t, [gensV 1, nlS, bodV 1]) := by kernel_rfl
theorem nw012 (t : Value) : evK [c61_c, c62_c] KR NT 5 0 (envL [(iv 0), (.int .i64 ((1 : Nat) : Int)), (.int .i64 ((2 : Nat) : Int)), t, iv 100] []) = some (nwS (iv 0) (.int .i64 ((1 : Nat) : Int)) (.int .i64 ((2 : Nat) : Int)) t, [gensV 1, nlS, bodV 1]) := by kernel_rfl
theorem nw013 (t : Value) : evK [c61_c, c62_c] KR NT 5 0 (envL [(iv 0), (.int .i64 ((1 : Nat) : Int)), (.int .i64 ((3 : Nat) : Int)), t, iv 100] []) = some (nwS (iv 0) (.int .i64 ((1 : Nat) : Int)) (.int .i64 ((3 : Nat) : Int)) t, [gensV 1, nlS, bodV 1]) := by kernel_rfl
theorem nw014 (t : Value) : evK [c61_c, c62_c] KR NT 5 0 (envL [(iv 0), (.int .i64 ((1 : Nat) : Int)), (.int .i64 ((4 : Nat) : Int)), t, iv 100] []) = some (nwS (iv 0) (.int .i64 ((1 : Nat) : Int)) (.int .i64 ((4 : Nat) : Int)) t, [gensV 1, nlS, bodV 1]) := by kernel_rfl
theorem nw021 (t : Value) : evK [c61_c, c62_c] KR NT 5 0 (envL [(iv 0), (.int .i64 ((2 : Nat) : Int)), (.int .i64 ((1 : Nat) : Int)), t, iv 100] []) = some (nwS (iv 0) (.int .i64 ((2 : Nat) : Int)) (.int .i64 ((1 : Nat) : Int)) t, [gensV 2, nlS, bodV 2]) := by kernel_rfl
theorem nw022 (t : Value) : evK [c61_c, c62_c] KR NT 5 0 (envL [(iv 0), (.int .i64 ((2 : Nat) : Int)), (.int .i64 ((2 : Nat) : Int)), t, iv 100] []) = some (nwS (iv 0) (.int .i64 ((2 : Nat) : Int)) (.int .i64 ((2 : Nat) : Int)) t, [gensV 2, nlS, bodV 2]) := by kernel_rfl
theorem nw023 (t : Value) : evK [c61_c, c62_c] KR NT 5 0 (envL [(iv 0), (.int .i64 ((2 : Nat) : Int)), (.int .i64 ((3 : Nat) : Int)), t, iv 100] []) = some (nwS (iv 0) (.int .i64 ((2 : Nat) : Int)) (.int .i64 ((3 : Nat) : Int)) t, [gensV 2, nlS, bodV 2]) := by kernel_rfl
theorem nw024 (t : Value) : evK [c61_c, c62_c] KR NT 5 0 (envL [(iv 0), (.int .i64 ((2 : Nat) : Int)), (.int .i64 ((4 : Nat) : Int)), t, iv 100] []) = some (nwS (iv 0) (.int .i64 ((2 : Nat) : Int)) (.int .i64 ((4 : Nat) : Int)) t, [gensV 2, nlS, bodV 2]) := by kernel_rfl
theorem nw031 (t : Value) : evK [c61_c, c62_c] KR NT 5 0 (envL [(iv 0), (.int .i64 ((3 : Nat) : Int)), (.int .i64 ((1 : Nat) : Int)), t, iv 100] []) = some (nwS (iv 0) (.int .i64 ((3 : Nat) : Int)) (.int .i64 ((1 : Nat) : Int)) t, [gensV 3, nlS, bodV 3]) := by kernel_rfl
theorem nw032 (t : Value) : evK [c61_c, c62_c] KR NT 5 0 (envL [(iv 0), (.int .i64 ((3 : Nat) : Int)), (.int .i64 ((2 : Nat) : Int)), t, iv 100] []) = some (nwS (iv 0) (.int .i64 ((3 : Nat) : Int)) (.int .i64 ((2 : Nat) : Int)) t, [gensV 3, nlS, bodV 3]) := by kernel_rfl
theorem nw033 (t : Value) : evK [c61_c, c62_c] KR NT 5 0 (envL [(iv 0), (.int .i64 ((3 : Nat) : Int)), (.int .i64 ((3 : Nat) : Int)), t, iv 100] []) = some (nwS (iv 0) (.int .i64 ((3 : Nat) : Int)) (.int .i64 ((3 : Nat) : Int)) t, [gensV 3, nlS, bodV 3]) := by kernel_rfl
theorem nw034 (t : Value) : evK [c61_c, c62_c] KR NT 5 0 (envL [(iv 0), (.int .i64 ((3 : Nat) : Int)), (.int .i64 ((4 : Nat) : Int)), t, iv 100] []) = some (nwS (iv 0) (.int .i64 ((3 : Nat) : Int)) (.int .i64 ((4 : Nat) : Int)) t, [gensV 3, nlS, bodV 3]) := by kernel_rfl
theorem nw041 (t : Value) : evK [c61_c, c62_c] KR NT 5 0 (envL [(iv 0), (.int .i64 ((4 : Nat) : Int)), (.int .i64 ((1 : Nat) : Int)), t, iv 100] []) = some (nwS (iv 0) (.int .i64 ((4 : Nat) : Int)) (.int .i64 ((1 : Nat) : Int)) t, [gensV 4, nlS, bodV 4]) := by kernel_rfl
theorem nw042 (t : Value) : evK [c61_c, c62_c] KR NT 5 0 (envL [(iv 0), (.int .i64 ((4 : Nat) : Int)), (.int .i64 ((2 : Nat) : Int)), t, iv 100] []) = some (nwS (iv 0) (.int .i64 ((4 : Nat) : Int)) (.int .i64 ((2 : Nat) : Int)) t, [gensV 4, nlS, bodV 4]) := by kernel_rfl
theorem nw043 (t : Value) : evK [c61_c, c62_c] KR NT 5 0 (envL [(iv 0), (.int .i64 ((4 : Nat) : Int)), (.int .i64 ((3 : Nat) : Int)), t, iv 100] []) = some (nwS (iv 0) (.int .i64 ((4 : Nat) : Int)) (.int .i64 ((3 : Nat) : Int)) t, [gensV 4, nlS, bodV 4]) := by kernel_rfl
theorem nw044 (t : Value) : evK [c61_c, c62_c] KR NT 5 0 (envL [(iv 0), (.int .i64 ((4 : Nat) : Int)), (.int .i64 ((4 : Nat) : Int)), t, iv 100] []) = some (nwS (iv 0) (.int .i64 ((4 : Nat) : Int)) (.int .i64 ((4 : Nat) : Int)) t, [gensV 4, nlS, bodV 4]) := by kernel_rfl
theorem nw051 (t : Value) : evK [c61_c, c62_c] KR NT 5 0 (envL [(iv 0), (.int .i64 ((5 : Nat) : Int)), (.int .i64 ((1 : Nat) : Int)), t, iv 100] []) = some (nwS (iv 0) (.int .i64 ((5 : Nat) : Int)) (.int .i64 ((1 : Nat) : Int)) t, [gensV 5, nlS, bodV 5]) := by kernel_rfl
theorem nw052 (t : Value) : evK [c61_c, c62_c] KR NT 5 0 (envL [(iv 0), (.int .i64 ((5 : Nat) : Int)), (.int .i64 ((2 : Nat) : Int)), t, iv 100] []) = some (nwS (iv 0) (.int .i64 ((5 : Nat) : Int)) (.int .i64 ((2 : Nat) : Int)) t, [gensV 5, nlS, bodV 5]) := by kernel_rfl
theorem nw053 (t : Value) : evK [c61_c, c62_c] KR NT 5 0 (envL [(iv 0), (.int .i64 ((5 : Nat) : Int)), (.int .i64 ((3 : Nat) : Int)), t, iv 100] []) = some (nwS (iv 0) (.int .i64 ((5 : Nat) : Int)) (.int .i64 ((3 : Nat) : Int)) t, [gensV 5, nlS, bodV 5]) := by kernel_rfl
theorem nw054 (t : Value) : evK [c61_c, c62_c] KR NT 5 0 (envL [(iv 0), (.int .i64 ((5 : Nat) : Int)), (.int .i64 ((4 : Nat) : Int)), t, iv 100] []) = some (nwS (iv 0) (.int .i64 ((5 : Nat) : Int)) (.int .i64 ((4 : Nat) : Int)) t, [gensV 5, nlS, bodV 5]) := by kernel_rfl
theorem nw061 (t : Value) : evK [c61_c, c62_c] KR NT 5 0 (envL [(iv 0), (.int .i64 ((6 : Nat) : Int)), (.int .i64 ((1 : Nat) : Int)), t, iv 100] []) = some (nwS (iv 0) (.int .i64 ((6 : Nat) : Int)) (.int .i64 ((1 : Nat) : Int)) t, [gensV 6, nlS, bodV 6]) := by kernel_rfl
theorem nw062 (t : Value) : evK [c61_c, c62_c] KR NT 5 0 (envL [(iv 0), (.int .i64 ((6 : Nat) : Int)), (.int .i64 ((2 : Nat) : Int)), t, iv 100] []) = some (nwS (iv 0) (.int .i64 ((6 : Nat) : Int)) (.int .i64 ((2 : Nat) : Int)) t, [gensV 6, nlS, bodV 6]) := by kernel_rfl
theorem nw063 (t : Value) : evK [c61_c, c62_c] KR NT 5 0 (envL [(iv 0), (.int .i64 ((6 : Nat) : Int)), (.int .i64 ((3 : Nat) : Int)), t, iv 100] []) = some (nwS (iv 0) (.int .i64 ((6 : Nat) : Int)) (.int .i64 ((3 : Nat) : Int)) t, [gensV 6, nlS, bodV 6]) := by kernel_rfl
theorem nw064 (t : Value) : evK [c61_c, c62_c] KR NT 5 0 (envL [(iv 0), (.int .i64 ((6 : Nat) : Int)), (.int .i64 ((4 : Nat) : Int)), t, iv 100] []) = some (nwS (iv 0) (.int .i64 ((6 : Nat) : Int)) (.int .i64 ((4 : Nat) : Int)) t, [gensV 6, nlS, bodV 6]) := by kernel_rfl
theorem nw111 (t : Value) : evK [c61_c, c62_c] KR NT 5 0 (envL [(nv 34359738367), (.int .i64 ((1 : Nat) : Int)), (.int .i64 ((1 : Nat) : Int)), t, iv 100] []) = some (nwS (nv 34359738367) (.int .i64 ((1 : Nat) : Int)) (.int .i64 ((1 : Nat) : Int)) t, [gensV 1, nlS, bodV 1]) := by kernel_rfl
theorem nw112 (t : Value) : evK [c61_c, c62_c] KR NT 5 0 (envL [(nv 34359738367), (.int .i64 ((1 : Nat) : Int)), (.int .i64 ((2 : Nat) : Int)), t, iv 100] []) = some (nwS (nv 34359738367) (.int .i64 ((1 : Nat) : Int)) (.int .i64 ((2 : Nat) : Int)) t, [gensV 1, nlS, bodV 1]) := by kernel_rfl
theorem nw113 (t : Value) : evK [c61_c, c62_c] KR NT 5 0 (envL [(nv 34359738367), (.int .i64 ((1 : Nat) : Int)), (.int .i64 ((3 : Nat) : Int)), t, iv 100] []) = some (nwS (nv 34359738367) (.int .i64 ((1 : Nat) : Int)) (.int .i64 ((3 : Nat) : Int)) t, [gensV 1, nlS, bodV 1]) := by kernel_rfl
theorem nw114 (t : Value) : evK [c61_c, c62_c] KR NT 5 0 (envL [(nv 34359738367), (.int .i64 ((1 : Nat) : Int)), (.int .i64 ((4 : Nat) : Int)), t, iv 100] []) = some (nwS (nv 34359738367) (.int .i64 ((1 : Nat) : Int)) (.int .i64 ((4 : Nat) : Int)) t, [gensV 1, nlS, bodV 1]) := by kernel_rfl
theorem nw121 (t : Value) : evK [c61_c, c62_c] KR NT 5 0 (envL [(nv 34359738367), (.int .i64 ((2 : Nat) : Int)), (.int .i64 ((1 : Nat) : Int)), t, iv 100] []) = some (nwS (nv 34359738367) (.int .i64 ((2 : Nat) : Int)) (.int .i64 ((1 : Nat) : Int)) t, [gensV 2, nlS, bodV 2]) := by kernel_rfl
theorem nw122 (t : Value) : evK [c61_c, c62_c] KR NT 5 0 (envL [(nv 34359738367), (.int .i64 ((2 : Nat) : Int)), (.int .i64 ((2 : Nat) : Int)), t, iv 100] []) = some (nwS (nv 34359738367) (.int .i64 ((2 : Nat) : Int)) (.int .i64 ((2 : Nat) : Int)) t, [gensV 2, nlS, bodV 2]) := by kernel_rfl
theorem nw123 (t : Value) : evK [c61_c, c62_c] KR NT 5 0 (envL [(nv 34359738367), (.int .i64 ((2 : Nat) : Int)), (.int .i64 ((3 : Nat) : Int)), t, iv 100] []) = some (nwS (nv 34359738367) (.int .i64 ((2 : Nat) : Int)) (.int .i64 ((3 : Nat) : Int)) t, [gensV 2, nlS, bodV 2]) := by kernel_rfl
theorem nw124 (t : Value) : evK [c61_c, c62_c] KR NT 5 0 (envL [(nv 34359738367), (.int .i64 ((2 : Nat) : Int)), (.int .i64 ((4 : Nat) : Int)), t, iv 100] []) = some (nwS (nv 34359738367) (.int .i64 ((2 : Nat) : Int)) (.int .i64 ((4 : Nat) : Int)) t, [gensV 2, nlS, bodV 2]) := by kernel_rfl
theorem nw131 (t : Value) : evK [c61_c, c62_c] KR NT 5 0 (envL [(nv 34359738367), (.int .i64 ((3 : Nat) : Int)), (.int .i64 ((1 : Nat) : Int)), t, iv 100] []) = some (nwS (nv 34359738367) (.int .i64 ((3 : Nat) : Int)) (.int .i64 ((1 : Nat) : Int)) t, [gensV 3, nlS, bodV 3]) := by kernel_rfl
theorem nw132 (t : Value) : evK [c61_c, c62_c] KR NT 5 0 (envL [(nv 34359738367), (.int .i64 ((3 : Nat) : Int)), (.int .i64 ((2 : Nat) : Int)), t, iv 100] []) = some (nwS (nv 34359738367) (.int .i64 ((3 : Nat) : Int)) (.int .i64 ((2 : Nat) : Int)) t, [gensV 3, nlS, bodV 3]) := by kernel_rfl
theorem nw133 (t : Value) : evK [c61_c, c62_c] KR NT 5 0 (envL [(nv 34359738367), (.int .i64 ((3 : Nat) : Int)), (.int .i64 ((3 : Nat) : Int)), t, iv 100] []) = some (nwS (nv 34359738367) (.int .i64 ((3 : Nat) : Int)) (.int .i64 ((3 : Nat) : Int)) t, [gensV 3, nlS, bodV 3]) := by kernel_rfl
theorem nw134 (t : Value) : evK [c61_c, c62_c] KR NT 5 0 (envL [(nv 34359738367), (.int .i64 ((3 : Nat) : Int)), (.int .i64 ((4 : Nat) : Int)), t, iv 100] []) = some (nwS (nv 34359738367) (.int .i64 ((3 : Nat) : Int)) (.int .i64 ((4 : Nat) : Int)) t, [gensV 3, nlS, bodV 3]) := by kernel_rfl
theorem nw141 (t : Value) : evK [c61_c, c62_c] KR NT 5 0 (envL [(nv 34359738367), (.int .i64 ((4 : Nat) : Int)), (.int .i64 ((1 : Nat) : Int)), t, iv 100] []) = some (nwS (nv 34359738367) (.int .i64 ((4 : Nat) : Int)) (.int .i64 ((1 : Nat) : Int)) t, [gensV 4, nlS, bodV 4]) := by kernel_rfl
theorem nw142 (t : Value) : evK [c61_c, c62_c] KR NT 5 0 (envL [(nv 34359738367), (.int .i64 ((4 : Nat) : Int)), (.int .i64 ((2 : Nat) : Int)), t, iv 100] []) = some (nwS (nv 34359738367) (.int .i64 ((4 : Nat) : Int)) (.int .i64 ((2 : Nat) : Int)) t, [gensV 4, nlS, bodV 4]) := by kernel_rfl
theorem nw143 (t : Value) : evK [c61_c, c62_c] KR NT 5 0 (envL [(nv 34359738367), (.int .i64 ((4 : Nat) : Int)), (.int .i64 ((3 : Nat) : Int)), t, iv 100] []) = some (nwS (nv 34359738367) (.int .i64 ((4 : Nat) : Int)) (.int .i64 ((3 : Nat) : Int)) t, [gensV 4, nlS, bodV 4]) := by kernel_rfl
theorem nw144 (t : Value) : evK [c61_c, c62_c] KR NT 5 0 (envL [(nv 34359738367), (.int .i64 ((4 : Nat) : Int)), (.int .i64 ((4 : Nat) : Int)), t, iv 100] []) = some (nwS (nv 34359738367) (.int .i64 ((4 : Nat) : Int)) (.int .i64 ((4 : Nat) : Int)) t, [gensV 4, nlS, bodV 4]) := by kernel_rfl
theorem nw151 (t : Value) : evK [c61_c, c62_c] KR NT 5 0 (envL [(nv 34359738367), (.int .i64 ((5 : Nat) : Int)), (.int .i64 ((1 : Nat) : Int)), t, iv 100] []) = some (nwS (nv 34359738367) (.int .i64 ((5 : Nat) : Int)) (.int .i64 ((1 : Nat) : Int)) t, [gensV 5, nlS, bodV 5]) := by kernel_rfl
theorem nw152 (t : Value) : evK [c61_c, c62_c] KR NT 5 0 (envL [(nv 34359738367), (.int .i64 ((5 : Nat) : Int)), (.int .i64 ((2 : Nat) : Int)), t, iv 100] []) = some (nwS (nv 34359738367) (.int .i64 ((5 : Nat) : Int)) (.int .i64 ((2 : Nat) : Int)) t, [gensV 5, nlS, bodV 5]) := by kernel_rfl
theorem nw153 (t : Value) : evK [c61_c, c62_c] KR NT 5 0 (envL [(nv 34359738367), (.int .i64 ((5 : Nat) : Int)), (.int .i64 ((3 : Nat) : Int)), t, iv 100] []) = some (nwS (nv 34359738367) (.int .i64 ((5 : Nat) : Int)) (.int .i64 ((3 : Nat) : Int)) t, [gensV 5, nlS, bodV 5]) := by kernel_rfl
theorem nw154 (t : Value) : evK [c61_c, c62_c] KR NT 5 0 (envL [(nv 34359738367), (.int .i64 ((5 : Nat) : Int)), (.int .i64 ((4 : Nat) : Int)), t, iv 100] []) = some (nwS (nv 34359738367) (.int .i64 ((5 : Nat) : Int)) (.int .i64 ((4 : Nat) : Int)) t, [gensV 5, nlS, bodV 5]) := by kernel_rfl
theorem nw161 (t : Value) : evK [c61_c, c62_c] KR NT 5 0 (envL [(nv 34359738367), (.int .i64 ((6 : Nat) : Int)), (.int .i64 ((1 : Nat) : Int)), t, iv 100] []) = some (nwS (nv 34359738367) (.int .i64 ((6 : Nat) : Int)) (.int .i64 ((1 : Nat) : Int)) t, [gensV 6, nlS, bodV 6]) := by kernel_rfl
theorem nw162 (t : Value) : evK [c61_c, c62_c] KR NT 5 0 (envL [(nv 34359738367), (.int .i64 ((6 : Nat) : Int)), (.int .i64 ((2 : Nat) : Int)), t, iv 100] []) = some (nwS (nv 34359738367) (.int .i64 ((6 : Nat) : Int)) (.int .i64 ((2 : Nat) : Int)) t, [gensV 6, nlS, bodV 6]) := by kernel_rfl
theorem nw163 (t : Value) : evK [c61_c, c62_c] KR NT 5 0 (envL [(nv 34359738367), (.int .i64 ((6 : Nat) : Int)), (.int .i64 ((3 : Nat) : Int)), t, iv 100] []) = some (nwS (nv 34359738367) (.int .i64 ((6 : Nat) : Int)) (.int .i64 ((3 : Nat) : Int)) t, [gensV 6, nlS, bodV 6]) := by kernel_rfl
theorem nw164 (t : Value) : evK [c61_c, c62_c] KR NT 5 0 (envL [(nv 34359738367), (.int .i64 ((6 : Nat) : Int)), (.int .i64 ((4 : Nat) : Int)), t, iv 100] []) = some (nwS (nv 34359738367) (.int .i64 ((6 : Nat) : Int)) (.int .i64 ((4 : Nat) : Int)) t, [gensV 6, nlS, bodV 6]) := by kernel_rfl
theorem nw (g : Bool) (m r : Nat) (hm : m < 6) (hr : r < 4) (t : Value) : evK [c61_c, c62_c] KR NT 5 0 (envL [gv g, (.int .i64 ((m + 1 : Nat) : Int)), (.int .i64 ((r + 1 : Nat) : Int)), t, iv 100] []) = some (nwS (gv g) (.int .i64 ((m + 1 : Nat) : Int)) (.int .i64 ((r + 1 : Nat) : Int)) t, [gensV (m + 1), nlS, bodV (m + 1)]) := by
  cases g
  · match m, hm with
    | 0, _ =>
      match r, hr with
      | 0, _ => exact nw011 t
      | 1, _ => exact nw012 t
      | 2, _ => exact nw013 t
      | 3, _ => exact nw014 t
    | 1, _ =>
      match r, hr with
      | 0, _ => exact nw021 t
      | 1, _ => exact nw022 t
      | 2, _ => exact nw023 t
      | 3, _ => exact nw024 t
    | 2, _ =>
      match r, hr with
      | 0, _ => exact nw031 t
      | 1, _ => exact nw032 t
      | 2, _ => exact nw033 t
      | 3, _ => exact nw034 t
    | 3, _ =>
      match r, hr with
      | 0, _ => exact nw041 t
      | 1, _ => exact nw042 t
      | 2, _ => exact nw043 t
      | 3, _ => exact nw044 t
    | 4, _ =>
      match r, hr with
      | 0, _ => exact nw051 t
      | 1, _ => exact nw052 t
      | 2, _ => exact nw053 t
      | 3, _ => exact nw054 t
    | 5, _ =>
      match r, hr with
      | 0, _ => exact nw061 t
      | 1, _ => exact nw062 t
      | 2, _ => exact nw063 t
      | 3, _ => exact nw064 t
  · match m, hm with
    | 0, _ =>
      match r, hr with
      | 0, _ => exact nw111 t
      | 1, _ => exact nw112 t
      | 2, _ => exact nw113 t
      | 3, _ => exact nw114 t
    | 1, _ =>
      match r, hr with
      | 0, _ => exact nw121 t
      | 1, _ => exact nw122 t
      | 2, _ => exact nw123 t
      | 3, _ => exact nw124 t
    | 2, _ =>
      match r, hr with
      | 0, _ => exact nw131 t
      | 1, _ => exact nw132 t
      | 2, _ => exact nw133 t
      | 3, _ => exact nw134 t
    | 3, _ =>
      match r, hr with
      | 0, _ => exact nw141 t
      | 1, _ => exact nw142 t
      | 2, _ => exact nw143 t
      | 3, _ => exact nw144 t
    | 4, _ =>
      match r, hr with
      | 0, _ => exact nw151 t
      | 1, _ => exact nw152 t
      | 2, _ => exact nw153 t
      | 3, _ => exact nw154 t
    | 5, _ =>
      match r, hr with
      | 0, _ => exact nw161 t
      | 1, _ => exact nw162 t
      | 2, _ => exact nw163 t
      | 3, _ => exact nw164 t
theorem new0_F (g : Bool) (m r t : Nat) (hm : m < 6) (hr : r < 4) (ht : t < 8) : c7_3_c.F [gv g, (.int .i64 ((m + 1 : Nat) : Int)), (.int .i64 ((r + 1 : Nat) : Int)), (.int .i64 ((t + 1 : Nat) : Int)), iv 100] [] = some (nwS (gv g) (.int .i64 ((m + 1 : Nat) : Int)) (.int .i64 ((r + 1 : Nat) : Int)) (.int .i64 ((t + 1 : Nat) : Int)), [gensV (m + 1), nlS, bodV (m + 1)]) := by
  have h3 : ∀ u v, c7_3_c.F u v = flatR (CFn.F (P := Tryz.prog) [c61_c, c62_c] (c7_3_f 0 c7_3_z0) u v) := by intro u v; kernel_rfl
  rw [h3]
  have h4 : CFn.F (P := Tryz.prog) [c61_c, c62_c] (c7_3_f 0 c7_3_z0) [gv g, (.int .i64 ((m + 1 : Nat) : Int)), (.int .i64 ((r + 1 : Nat) : Int)), (.int .i64 ((t + 1 : Nat) : Int)), iv 100] [] = some (nwS (gv g) (.int .i64 ((m + 1 : Nat) : Int)) (.int .i64 ((r + 1 : Nat) : Int)) (.int .i64 ((t + 1 : Nat) : Int)), [gensV (m + 1), nlS, bodV (m + 1)]) := by
    refine Eq.trans (flat_eq _ rfl) ?_
    refine evK_c_mono (cs := [c61_c, c62_c]) rfl ?_ (evK_KR (F := c7_3_f 0 c7_3_z0) (k := manyK - 1) (nw g m r hm hr (.int .i64 ((t + 1 : Nat) : Int))))
    intro a b h
    refine Eq.trans ?_ h
    refine Eq.trans (evK_t false (by
      show sev (.bin .lss) [updL _ 5 a 3, _] = _
      rw [updL_lt (by omega)]
      exact (cmpL (t + 1) 1).trans (by rw [decide_eq_false (by omega)]))) ?_
    rw [cond_false]
    refine Eq.trans (evK_t false (by
      show sev (.bin .gtr) [updL _ 5 a 3, _] = _
      rw [updL_lt (by omega)]
      exact (cmpG (t + 1) 64).trans (by rw [decide_eq_false (by omega)]))) ?_
    rw [cond_false]
    refine Eq.trans (evK_t false (by
      show sev (.bin .lss) [updL _ 5 a 4, _] = _
      rw [updL_lt (by omega)]
      exact (cmpL 100 1).trans (by rw [decide_eq_false (by omega)]))) ?_
    rw [cond_false]
    refine Eq.trans (evK_t false (by
      show sev (.bin .gtr) [updL _ 5 a 4, _] = _
      rw [updL_lt (by omega)]
      exact (cmpG 100 65536).trans (by rw [decide_eq_false (by omega)]))) ?_
    rw [cond_false]
    rfl
  rw [h4]
  match m, hm with
  | 0, _ => rfl
  | 1, _ => rfl
  | 2, _ => rfl
  | 3, _ => rfl
  | 4, _ => rfl
  | 5, _ => rfl
theorem new1_F (g : Bool) (m r t : Nat) (hm : m < 6) (hr : r < 4) (ht : t < 8) : c7_2_c.F [gv g, (.int .i64 ((m + 1 : Nat) : Int)), (.int .i64 ((r + 1 : Nat) : Int)), (.int .i64 ((t + 1 : Nat) : Int)), iv 100] [] = some (nwS (gv g) (.int .i64 ((m + 1 : Nat) : Int)) (.int .i64 ((r + 1 : Nat) : Int)) (.int .i64 ((t + 1 : Nat) : Int)), [gensV (m + 1), nlS, bodV (m + 1)]) := by
  have h3 : ∀ u v, c7_2_c.F u v = flatR (CFn.F (P := Tryz.prog) [c61_c, c62_c] (c7_2_f 0 c7_2_z0) u v) := by intro u v; kernel_rfl
  rw [h3]
  have h4 : CFn.F (P := Tryz.prog) [c61_c, c62_c] (c7_2_f 0 c7_2_z0) [gv g, (.int .i64 ((m + 1 : Nat) : Int)), (.int .i64 ((r + 1 : Nat) : Int)), (.int .i64 ((t + 1 : Nat) : Int)), iv 100] [] = some (nwS (gv g) (.int .i64 ((m + 1 : Nat) : Int)) (.int .i64 ((r + 1 : Nat) : Int)) (.int .i64 ((t + 1 : Nat) : Int)), [gensV (m + 1), nlS, bodV (m + 1)]) := by
    refine Eq.trans (flat_eq _ rfl) ?_
    refine evK_c_mono (cs := [c61_c, c62_c]) rfl ?_ (evK_KR (F := c7_2_f 0 c7_2_z0) (k := manyK - 1) (nw g m r hm hr (.int .i64 ((t + 1 : Nat) : Int))))
    intro a b h
    refine Eq.trans ?_ h
    refine Eq.trans (evK_t false (by
      show sev (.bin .lss) [updL _ 5 a 3, _] = _
      rw [updL_lt (by omega)]
      exact (cmpL (t + 1) 1).trans (by rw [decide_eq_false (by omega)]))) ?_
    rw [cond_false]
    refine Eq.trans (evK_t false (by
      show sev (.bin .gtr) [updL _ 5 a 3, _] = _
      rw [updL_lt (by omega)]
      exact (cmpG (t + 1) 64).trans (by rw [decide_eq_false (by omega)]))) ?_
    rw [cond_false]
    refine Eq.trans (evK_t false (by
      show sev (.bin .lss) [updL _ 5 a 4, _] = _
      rw [updL_lt (by omega)]
      exact (cmpL 100 1).trans (by rw [decide_eq_false (by omega)]))) ?_
    rw [cond_false]
    refine Eq.trans (evK_t false (by
      show sev (.bin .gtr) [updL _ 5 a 4, _] = _
      rw [updL_lt (by omega)]
      exact (cmpG 100 65536).trans (by rw [decide_eq_false (by omega)]))) ?_
    rw [cond_false]
    rfl
  rw [h4]
  match m, hm with
  | 0, _ => rfl
  | 1, _ => rfl
  | 2, _ => rfl
  | 3, _ => rfl
  | 4, _ => rfl
  | 5, _ => rfl
theorem new2_F (g : Bool) (m r t : Nat) (hm : m < 6) (hr : r < 4) (ht : t < 8) : c7_1_c.F [gv g, (.int .i64 ((m + 1 : Nat) : Int)), (.int .i64 ((r + 1 : Nat) : Int)), (.int .i64 ((t + 1 : Nat) : Int)), iv 100] [] = some (nwS (gv g) (.int .i64 ((m + 1 : Nat) : Int)) (.int .i64 ((r + 1 : Nat) : Int)) (.int .i64 ((t + 1 : Nat) : Int)), [gensV (m + 1), nlS, bodV (m + 1)]) := by
  have h3 : ∀ u v, c7_1_c.F u v = flatR (CFn.F (P := Tryz.prog) [c61_c, c62_c] (c7_1_f 0 c7_1_z0) u v) := by intro u v; kernel_rfl
  rw [h3]
  have h4 : CFn.F (P := Tryz.prog) [c61_c, c62_c] (c7_1_f 0 c7_1_z0) [gv g, (.int .i64 ((m + 1 : Nat) : Int)), (.int .i64 ((r + 1 : Nat) : Int)), (.int .i64 ((t + 1 : Nat) : Int)), iv 100] [] = some (nwS (gv g) (.int .i64 ((m + 1 : Nat) : Int)) (.int .i64 ((r + 1 : Nat) : Int)) (.int .i64 ((t + 1 : Nat) : Int)), [gensV (m + 1), nlS, bodV (m + 1)]) := by
    refine Eq.trans (flat_eq _ rfl) ?_
    refine evK_c_mono (cs := [c61_c, c62_c]) rfl ?_ (evK_KR (F := c7_1_f 0 c7_1_z0) (k := manyK - 1) (nw g m r hm hr (.int .i64 ((t + 1 : Nat) : Int))))
    intro a b h
    refine Eq.trans ?_ h
    refine Eq.trans (evK_t false (by
      show sev (.bin .lss) [updL _ 5 a 3, _] = _
      rw [updL_lt (by omega)]
      exact (cmpL (t + 1) 1).trans (by rw [decide_eq_false (by omega)]))) ?_
    rw [cond_false]
    refine Eq.trans (evK_t false (by
      show sev (.bin .gtr) [updL _ 5 a 3, _] = _
      rw [updL_lt (by omega)]
      exact (cmpG (t + 1) 64).trans (by rw [decide_eq_false (by omega)]))) ?_
    rw [cond_false]
    refine Eq.trans (evK_t false (by
      show sev (.bin .lss) [updL _ 5 a 4, _] = _
      rw [updL_lt (by omega)]
      exact (cmpL 100 1).trans (by rw [decide_eq_false (by omega)]))) ?_
    rw [cond_false]
    refine Eq.trans (evK_t false (by
      show sev (.bin .gtr) [updL _ 5 a 4, _] = _
      rw [updL_lt (by omega)]
      exact (cmpG 100 65536).trans (by rw [decide_eq_false (by omega)]))) ?_
    rw [cond_false]
    rfl
  rw [h4]
  match m, hm with
  | 0, _ => rfl
  | 1, _ => rfl
  | 2, _ => rfl
  | 3, _ => rfl
  | 4, _ => rfl
  | 5, _ => rfl
theorem new3_F (g : Bool) (m r t : Nat) (hm : m < 6) (hr : r < 4) (ht : t < 8) : c7_c.F [gv g, (.int .i64 ((m + 1 : Nat) : Int)), (.int .i64 ((r + 1 : Nat) : Int)), (.int .i64 ((t + 1 : Nat) : Int)), iv 100] [] = some (nwS (gv g) (.int .i64 ((m + 1 : Nat) : Int)) (.int .i64 ((r + 1 : Nat) : Int)) (.int .i64 ((t + 1 : Nat) : Int)), [gensV (m + 1), nlS, bodV (m + 1)]) := by
  have h3 : ∀ u v, c7_c.F u v = flatR (CFn.F (P := Tryz.prog) [c61_c, c62_c] (c7_f 0 c7_z0) u v) := by intro u v; kernel_rfl
  rw [h3]
  have h4 : CFn.F (P := Tryz.prog) [c61_c, c62_c] (c7_f 0 c7_z0) [gv g, (.int .i64 ((m + 1 : Nat) : Int)), (.int .i64 ((r + 1 : Nat) : Int)), (.int .i64 ((t + 1 : Nat) : Int)), iv 100] [] = some (nwS (gv g) (.int .i64 ((m + 1 : Nat) : Int)) (.int .i64 ((r + 1 : Nat) : Int)) (.int .i64 ((t + 1 : Nat) : Int)), [gensV (m + 1), nlS, bodV (m + 1)]) := by
    refine Eq.trans (flat_eq _ rfl) ?_
    refine evK_c_mono (cs := [c61_c, c62_c]) rfl ?_ (evK_KR (F := c7_f 0 c7_z0) (k := manyK - 1) (nw g m r hm hr (.int .i64 ((t + 1 : Nat) : Int))))
    intro a b h
    refine Eq.trans ?_ h
    refine Eq.trans (evK_t false (by
      show sev (.bin .lss) [updL _ 5 a 3, _] = _
      rw [updL_lt (by omega)]
      exact (cmpL (t + 1) 1).trans (by rw [decide_eq_false (by omega)]))) ?_
    rw [cond_false]
    refine Eq.trans (evK_t false (by
      show sev (.bin .gtr) [updL _ 5 a 3, _] = _
      rw [updL_lt (by omega)]
      exact (cmpG (t + 1) 64).trans (by rw [decide_eq_false (by omega)]))) ?_
    rw [cond_false]
    refine Eq.trans (evK_t false (by
      show sev (.bin .lss) [updL _ 5 a 4, _] = _
      rw [updL_lt (by omega)]
      exact (cmpL 100 1).trans (by rw [decide_eq_false (by omega)]))) ?_
    rw [cond_false]
    refine Eq.trans (evK_t false (by
      show sev (.bin .gtr) [updL _ 5 a 4, _] = _
      rw [updL_lt (by omega)]
      exact (cmpG 100 65536).trans (by rw [decide_eq_false (by omega)]))) ?_
    rw [cond_false]
    rfl
  rw [h4]
  match m, hm with
  | 0, _ => rfl
  | 1, _ => rfl
  | 2, _ => rfl
  | 3, _ => rfl
  | 4, _ => rfl
  | 5, _ => rfl
end Go.Proofs.YtgddinljekkhdaaGreat.U
