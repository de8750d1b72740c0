/- RulesSessions: its loop's rounds, run: which sessions are open are truth values that are not looked into but for one. -/
import Derived.Test.YtogdmfknfkcjdaaGreatEngR3
import Derived.Test.YtogdmfknfkcjdaaGreatPokP
namespace Go.Proofs.YtogdmfknfkcjdaaGreat.Rs
open Go Go.Eng Go.RowKit

noncomputable def C3 : Code := (Tryz.f3.body).getD .skip
noncomputable def B3 : Code := match (flat C3).getD 8 .skip with
  | .block _ (.loop c) => c
  | _ => .skip
noncomputable def pre3 : List Code := (flat C3).take 8
noncomputable def post3 : List Code := (flat C3).drop 9
theorem split3 : flat C3 = pre3 ++ Code.block 0 (Code.loop B3) :: post3 := by kernel_rfl

/-- which sessions are open -/
def opn (b : Nat → Bool) : List Value := [.bool (b 0), .bool (b 1), .bool (b 2), .bool (b 3), .bool (b 4), .bool (b 5), .bool (b 6), .bool (b 7), .bool (b 8), .bool (b 9), .bool (b 10), .bool (b 11), .bool (b 12), .bool (b 13), .bool (b 14), .bool (b 15), .bool (b 16)]
def stR (b : Nat → Bool) : LB := .cells (.pointer (some ⟨3, 0, none⟩) :: (opn b ++ [.slice none 0 0]))
def stQ (b : Nat → Bool) : LB := .cells (.pointer (some ⟨5, 0, none⟩) :: (opn b ++ [.slice none 0 0]))
/-- the two rooms; their worlds are given up -/
def stL (b : Nat → Bool) : List (Nat × LB) := [(0, .dead), (1, .cells [.pointer (some ⟨2, 0, none⟩)]), (2, stR b), (3, .dead), (4, stQ b), (5, .dead)]
def upd (b : Nat → Bool) (j : Nat) (v : Bool) : Nat → Bool := fun i => bif Nat.beq i j then v else b i
def pt (n : Nat) : Value := .pointer (some ⟨n, 0, none⟩)
def liveS : List (Nat × Value) := [(5, pt 1), (7, pt 4)]
def liveR : List (Nat × Value) := [(5, pt 1), (7, pt 4), (1, sv 7), (9, sv 1)]
def tabC : List SRule := [.len false (sv 7) (sv 2), .bin .lss (sv 1) (sv 2) (.bool true), .iad 1 (sv 7) (sv 1) (sv 8), .bin .add (sv 1) (.int .i64 (.ofNat 1)) (sv 3)]
def tabHi : List SRule := .bin .lss (sv 5) (.int .i64 (.ofNat 0)) (.bool false) :: .bin .lss (sv 5) (.int .i64 (.ofNat 1)) (.bool false) :: .bin .gtr (sv 5) (.int .i64 (.ofNat 16)) (.bool true) :: tabC
def tabLo : List SRule := .bin .lss (sv 5) (.int .i64 (.ofNat 0)) (.bool true) :: .bin .gtr (sv 5) (.int .i64 (.negSucc 99)) (.bool false) :: .bin .lss (sv 5) (.int .i64 (.ofNat 1)) (.bool true) :: tabC
def tabMid : List SRule := .bin .lss (sv 5) (.int .i64 (.ofNat 0)) (.bool true) :: .bin .gtr (sv 5) (.int .i64 (.negSucc 99)) (.bool true) :: .un .neg (sv 5) (sv 6) :: .bin .gtr (sv 6) (.int .i64 (.ofNat 0)) (.bool true) :: .bin .leq (sv 6) (.int .i64 (.ofNat 16)) (.bool false) :: .bin .geq (sv 6) (.int .i64 (.ofNat 1)) (.bool true) :: tabC
def tabE : List SRule := [.len false (sv 7) (sv 2), .bin .lss (sv 1) (sv 2) (.bool false)]
def ptrC (cell : Value) : Nat → Option (List Value) := fun n => bif Nat.beq n 8 then some [cell] else none
noncomputable def callX [SymV] [SymT] : CallT := callFF Tryz.prog ⟨552, 554, 386⟩ (fun _ => none) 100000 60
/-- what a round must leave -/
def Left (b : Nat → Bool) : Option (LX × Nat × List (Option LB) × List Value) := some (.norm, 96, [some (.cells [pt 2]), some (stR b), some (stQ b)], [pt 1, pt 4, sv 7, sv 3])
noncomputable def runR [SymV] [SymT] (b : Nat → Bool) (u : Nat → Value) : Option (LX × Nat × List (Option LB) × List Value) := outs (execL Tryz.prog ⟨552, 554, 386⟩ callX 100000 (flat B3) (mkF liveR u 96) (mem 6 (stL b))) [1, 2, 4] [5, 7, 1, 9]
/-- a round at a number -/
def RunAt (cell : Value) (tab : List SRule) (b b' : Nat → Bool) : Prop := ∀ (val : Nat → Value) (hi : ∀ n, isOneV (val n) = true) (blk : Nat) (c : Array Value) (e : TypeId) (fz : Nat × Nat)
  (hptr : ∀ n cs, ptrC cell n = some cs → ∃ off, val n = .pointer (some ⟨blk, off, none⟩) ∧ off + cs.length ≤ c.size ∧ ∀ (i : Nat) (v : Value), cs[i]? = some v → isScR v = true ∧ c[off + i]? = some (den val v)) (ok : ∀ r ∈ tab, r.good val) (u : Nat → Value),
  @runR (.pinned val hi blk c e fz (ptrC cell) hptr) (@SymT.mk (.pinned val hi blk c e fz (ptrC cell) hptr) tab ok) b u = Left b'
theorem op1_true (b : Nat → Bool) : RunAt (.int .i64 (.ofNat 1)) tabC (upd b 1 true) (upd b 1 true) := fun val hi blk c e fz hptr ok u => by kernel_rfl
theorem cl1_true (b : Nat → Bool) : RunAt (.int .i64 (.negSucc 0)) tabC (upd b 1 true) (upd b 1 false) := fun val hi blk c e fz hptr ok u => by kernel_rfl
theorem op1_false (b : Nat → Bool) : RunAt (.int .i64 (.ofNat 1)) tabC (upd b 1 false) (upd b 1 true) := fun val hi blk c e fz hptr ok u => by kernel_rfl
theorem cl1_false (b : Nat → Bool) : RunAt (.int .i64 (.negSucc 0)) tabC (upd b 1 false) (upd b 1 false) := fun val hi blk c e fz hptr ok u => by kernel_rfl
theorem op2_true (b : Nat → Bool) : RunAt (.int .i64 (.ofNat 2)) tabC (upd b 2 true) (upd b 2 true) := fun val hi blk c e fz hptr ok u => by kernel_rfl
theorem cl2_true (b : Nat → Bool) : RunAt (.int .i64 (.negSucc 1)) tabC (upd b 2 true) (upd b 2 false) := fun val hi blk c e fz hptr ok u => by kernel_rfl
theorem op2_false (b : Nat → Bool) : RunAt (.int .i64 (.ofNat 2)) tabC (upd b 2 false) (upd b 2 true) := fun val hi blk c e fz hptr ok u => by kernel_rfl
theorem cl2_false (b : Nat → Bool) : RunAt (.int .i64 (.negSucc 1)) tabC (upd b 2 false) (upd b 2 false) := fun val hi blk c e fz hptr ok u => by kernel_rfl
theorem op3_true (b : Nat → Bool) : RunAt (.int .i64 (.ofNat 3)) tabC (upd b 3 true) (upd b 3 true) := fun val hi blk c e fz hptr ok u => by kernel_rfl
theorem cl3_true (b : Nat → Bool) : RunAt (.int .i64 (.negSucc 2)) tabC (upd b 3 true) (upd b 3 false) := fun val hi blk c e fz hptr ok u => by kernel_rfl
theorem op3_false (b : Nat → Bool) : RunAt (.int .i64 (.ofNat 3)) tabC (upd b 3 false) (upd b 3 true) := fun val hi blk c e fz hptr ok u => by kernel_rfl
theorem cl3_false (b : Nat → Bool) : RunAt (.int .i64 (.negSucc 2)) tabC (upd b 3 false) (upd b 3 false) := fun val hi blk c e fz hptr ok u => by kernel_rfl
theorem op4_true (b : Nat → Bool) : RunAt (.int .i64 (.ofNat 4)) tabC (upd b 4 true) (upd b 4 true) := fun val hi blk c e fz hptr ok u => by kernel_rfl
theorem cl4_true (b : Nat → Bool) : RunAt (.int .i64 (.negSucc 3)) tabC (upd b 4 true) (upd b 4 false) := fun val hi blk c e fz hptr ok u => by kernel_rfl
theorem op4_false (b : Nat → Bool) : RunAt (.int .i64 (.ofNat 4)) tabC (upd b 4 false) (upd b 4 true) := fun val hi blk c e fz hptr ok u => by kernel_rfl
theorem cl4_false (b : Nat → Bool) : RunAt (.int .i64 (.negSucc 3)) tabC (upd b 4 false) (upd b 4 false) := fun val hi blk c e fz hptr ok u => by kernel_rfl
theorem op5_true (b : Nat → Bool) : RunAt (.int .i64 (.ofNat 5)) tabC (upd b 5 true) (upd b 5 true) := fun val hi blk c e fz hptr ok u => by kernel_rfl
theorem cl5_true (b : Nat → Bool) : RunAt (.int .i64 (.negSucc 4)) tabC (upd b 5 true) (upd b 5 false) := fun val hi blk c e fz hptr ok u => by kernel_rfl
theorem op5_false (b : Nat → Bool) : RunAt (.int .i64 (.ofNat 5)) tabC (upd b 5 false) (upd b 5 true) := fun val hi blk c e fz hptr ok u => by kernel_rfl
theorem cl5_false (b : Nat → Bool) : RunAt (.int .i64 (.negSucc 4)) tabC (upd b 5 false) (upd b 5 false) := fun val hi blk c e fz hptr ok u => by kernel_rfl
theorem op6_true (b : Nat → Bool) : RunAt (.int .i64 (.ofNat 6)) tabC (upd b 6 true) (upd b 6 true) := fun val hi blk c e fz hptr ok u => by kernel_rfl
theorem cl6_true (b : Nat → Bool) : RunAt (.int .i64 (.negSucc 5)) tabC (upd b 6 true) (upd b 6 false) := fun val hi blk c e fz hptr ok u => by kernel_rfl
theorem op6_false (b : Nat → Bool) : RunAt (.int .i64 (.ofNat 6)) tabC (upd b 6 false) (upd b 6 true) := fun val hi blk c e fz hptr ok u => by kernel_rfl
theorem cl6_false (b : Nat → Bool) : RunAt (.int .i64 (.negSucc 5)) tabC (upd b 6 false) (upd b 6 false) := fun val hi blk c e fz hptr ok u => by kernel_rfl
theorem op7_true (b : Nat → Bool) : RunAt (.int .i64 (.ofNat 7)) tabC (upd b 7 true) (upd b 7 true) := fun val hi blk c e fz hptr ok u => by kernel_rfl
theorem cl7_true (b : Nat → Bool) : RunAt (.int .i64 (.negSucc 6)) tabC (upd b 7 true) (upd b 7 false) := fun val hi blk c e fz hptr ok u => by kernel_rfl
theorem op7_false (b : Nat → Bool) : RunAt (.int .i64 (.ofNat 7)) tabC (upd b 7 false) (upd b 7 true) := fun val hi blk c e fz hptr ok u => by kernel_rfl
theorem cl7_false (b : Nat → Bool) : RunAt (.int .i64 (.negSucc 6)) tabC (upd b 7 false) (upd b 7 false) := fun val hi blk c e fz hptr ok u => by kernel_rfl
theorem op8_true (b : Nat → Bool) : RunAt (.int .i64 (.ofNat 8)) tabC (upd b 8 true) (upd b 8 true) := fun val hi blk c e fz hptr ok u => by kernel_rfl
theorem cl8_true (b : Nat → Bool) : RunAt (.int .i64 (.negSucc 7)) tabC (upd b 8 true) (upd b 8 false) := fun val hi blk c e fz hptr ok u => by kernel_rfl
theorem op8_false (b : Nat → Bool) : RunAt (.int .i64 (.ofNat 8)) tabC (upd b 8 false) (upd b 8 true) := fun val hi blk c e fz hptr ok u => by kernel_rfl
theorem cl8_false (b : Nat → Bool) : RunAt (.int .i64 (.negSucc 7)) tabC (upd b 8 false) (upd b 8 false) := fun val hi blk c e fz hptr ok u => by kernel_rfl
theorem op9_true (b : Nat → Bool) : RunAt (.int .i64 (.ofNat 9)) tabC (upd b 9 true) (upd b 9 true) := fun val hi blk c e fz hptr ok u => by kernel_rfl
theorem cl9_true (b : Nat → Bool) : RunAt (.int .i64 (.negSucc 8)) tabC (upd b 9 true) (upd b 9 false) := fun val hi blk c e fz hptr ok u => by kernel_rfl
theorem op9_false (b : Nat → Bool) : RunAt (.int .i64 (.ofNat 9)) tabC (upd b 9 false) (upd b 9 true) := fun val hi blk c e fz hptr ok u => by kernel_rfl
theorem cl9_false (b : Nat → Bool) : RunAt (.int .i64 (.negSucc 8)) tabC (upd b 9 false) (upd b 9 false) := fun val hi blk c e fz hptr ok u => by kernel_rfl
theorem op10_true (b : Nat → Bool) : RunAt (.int .i64 (.ofNat 10)) tabC (upd b 10 true) (upd b 10 true) := fun val hi blk c e fz hptr ok u => by kernel_rfl
theorem cl10_true (b : Nat → Bool) : RunAt (.int .i64 (.negSucc 9)) tabC (upd b 10 true) (upd b 10 false) := fun val hi blk c e fz hptr ok u => by kernel_rfl
theorem op10_false (b : Nat → Bool) : RunAt (.int .i64 (.ofNat 10)) tabC (upd b 10 false) (upd b 10 true) := fun val hi blk c e fz hptr ok u => by kernel_rfl
theorem cl10_false (b : Nat → Bool) : RunAt (.int .i64 (.negSucc 9)) tabC (upd b 10 false) (upd b 10 false) := fun val hi blk c e fz hptr ok u => by kernel_rfl
theorem op11_true (b : Nat → Bool) : RunAt (.int .i64 (.ofNat 11)) tabC (upd b 11 true) (upd b 11 true) := fun val hi blk c e fz hptr ok u => by kernel_rfl
theorem cl11_true (b : Nat → Bool) : RunAt (.int .i64 (.negSucc 10)) tabC (upd b 11 true) (upd b 11 false) := fun val hi blk c e fz hptr ok u => by kernel_rfl
theorem op11_false (b : Nat → Bool) : RunAt (.int .i64 (.ofNat 11)) tabC (upd b 11 false) (upd b 11 true) := fun val hi blk c e fz hptr ok u => by kernel_rfl
theorem cl11_false (b : Nat → Bool) : RunAt (.int .i64 (.negSucc 10)) tabC (upd b 11 false) (upd b 11 false) := fun val hi blk c e fz hptr ok u => by kernel_rfl
theorem op12_true (b : Nat → Bool) : RunAt (.int .i64 (.ofNat 12)) tabC (upd b 12 true) (upd b 12 true) := fun val hi blk c e fz hptr ok u => by kernel_rfl
theorem cl12_true (b : Nat → Bool) : RunAt (.int .i64 (.negSucc 11)) tabC (upd b 12 true) (upd b 12 false) := fun val hi blk c e fz hptr ok u => by kernel_rfl
theorem op12_false (b : Nat → Bool) : RunAt (.int .i64 (.ofNat 12)) tabC (upd b 12 false) (upd b 12 true) := fun val hi blk c e fz hptr ok u => by kernel_rfl
theorem cl12_false (b : Nat → Bool) : RunAt (.int .i64 (.negSucc 11)) tabC (upd b 12 false) (upd b 12 false) := fun val hi blk c e fz hptr ok u => by kernel_rfl
theorem op13_true (b : Nat → Bool) : RunAt (.int .i64 (.ofNat 13)) tabC (upd b 13 true) (upd b 13 true) := fun val hi blk c e fz hptr ok u => by kernel_rfl
theorem cl13_true (b : Nat → Bool) : RunAt (.int .i64 (.negSucc 12)) tabC (upd b 13 true) (upd b 13 false) := fun val hi blk c e fz hptr ok u => by kernel_rfl
theorem op13_false (b : Nat → Bool) : RunAt (.int .i64 (.ofNat 13)) tabC (upd b 13 false) (upd b 13 true) := fun val hi blk c e fz hptr ok u => by kernel_rfl
theorem cl13_false (b : Nat → Bool) : RunAt (.int .i64 (.negSucc 12)) tabC (upd b 13 false) (upd b 13 false) := fun val hi blk c e fz hptr ok u => by kernel_rfl
theorem op14_true (b : Nat → Bool) : RunAt (.int .i64 (.ofNat 14)) tabC (upd b 14 true) (upd b 14 true) := fun val hi blk c e fz hptr ok u => by kernel_rfl
theorem cl14_true (b : Nat → Bool) : RunAt (.int .i64 (.negSucc 13)) tabC (upd b 14 true) (upd b 14 false) := fun val hi blk c e fz hptr ok u => by kernel_rfl
theorem op14_false (b : Nat → Bool) : RunAt (.int .i64 (.ofNat 14)) tabC (upd b 14 false) (upd b 14 true) := fun val hi blk c e fz hptr ok u => by kernel_rfl
theorem cl14_false (b : Nat → Bool) : RunAt (.int .i64 (.negSucc 13)) tabC (upd b 14 false) (upd b 14 false) := fun val hi blk c e fz hptr ok u => by kernel_rfl
theorem op15_true (b : Nat → Bool) : RunAt (.int .i64 (.ofNat 15)) tabC (upd b 15 true) (upd b 15 true) := fun val hi blk c e fz hptr ok u => by kernel_rfl
theorem cl15_true (b : Nat → Bool) : RunAt (.int .i64 (.negSucc 14)) tabC (upd b 15 true) (upd b 15 false) := fun val hi blk c e fz hptr ok u => by kernel_rfl
theorem op15_false (b : Nat → Bool) : RunAt (.int .i64 (.ofNat 15)) tabC (upd b 15 false) (upd b 15 true) := fun val hi blk c e fz hptr ok u => by kernel_rfl
theorem cl15_false (b : Nat → Bool) : RunAt (.int .i64 (.negSucc 14)) tabC (upd b 15 false) (upd b 15 false) := fun val hi blk c e fz hptr ok u => by kernel_rfl
theorem op16_true (b : Nat → Bool) : RunAt (.int .i64 (.ofNat 16)) tabC (upd b 16 true) (upd b 16 true) := fun val hi blk c e fz hptr ok u => by kernel_rfl
theorem cl16_true (b : Nat → Bool) : RunAt (.int .i64 (.negSucc 15)) tabC (upd b 16 true) (upd b 16 false) := fun val hi blk c e fz hptr ok u => by kernel_rfl
theorem op16_false (b : Nat → Bool) : RunAt (.int .i64 (.ofNat 16)) tabC (upd b 16 false) (upd b 16 true) := fun val hi blk c e fz hptr ok u => by kernel_rfl
theorem cl16_false (b : Nat → Bool) : RunAt (.int .i64 (.negSucc 15)) tabC (upd b 16 false) (upd b 16 false) := fun val hi blk c e fz hptr ok u => by kernel_rfl
theorem zero (b : Nat → Bool) : RunAt (.int .i64 (.ofNat 0)) tabC b b := fun val hi blk c e fz hptr ok u => by kernel_rfl
theorem hi (b : Nat → Bool) : RunAt (sv 5) tabHi b b := fun val hi blk c e fz hptr ok u => by kernel_rfl
theorem lo (b : Nat → Bool) : RunAt (sv 5) tabLo b b := fun val hi blk c e fz hptr ok u => by kernel_rfl
theorem mid (b : Nat → Bool) : RunAt (sv 5) tabMid b b := fun val hi blk c e fz hptr ok u => by kernel_rfl
theorem ends (b : Nat → Bool) (val : Nat → Value) (hi : ∀ n, isOneV (val n) = true) (ok : ∀ r ∈ tabE, r.good val) (u : Nat → Value) : @runR (.plain val hi) (@SymT.mk (.plain val hi) tabE ok) b u = some (.exit 0, 96, [some (.cells [pt 2]), some (stR b), some (stQ b)], [pt 1, pt 4, sv 7, sv 1]) := by kernel_rfl
end Go.Proofs.YtogdmfknfkcjdaaGreat.Rs
