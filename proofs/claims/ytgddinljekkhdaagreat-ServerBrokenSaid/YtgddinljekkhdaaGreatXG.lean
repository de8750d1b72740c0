/- Numbers: bytes of a number, digits of a setup. -/
import Derived.Test.YtgddinljekkhdaaGreatXQ
set_option linter.unusedSimpArgs false
set_option linter.unusedVariables false
namespace Go.Proofs.YtgddinljekkhdaaGreat.U
open Go Go.Eng
def isT (r : Option (List Value × List Value)) : Bool := match r with
  | some ([.bool b], []) => b
  | _ => false
theorem isT_eq {r : Option (List Value × List Value)} (h : isT r = true) : r = some ([tt], []) := by
  unfold isT at h
  split at h
  · rw [h]; rfl
  · cases h
def isB (r : Option Bool) : Bool := match r with
  | some b => b
  | none => false
theorem isB_eq {r : Option Bool} (h : isB r = true) : r = some true := by
  cases r with
  | none => cases h
  | some b => exact congrArg some h
theorem w32 (x : Nat) (h : x < 4294967296) : IntKind.u32.wrap (x : Int) = (x : Int) := by
  show (x : Int) % 2 ^ 32 = _
  rw [Int.emod_eq_of_lt (by omega) (by omega)]
theorem w64 (x : Nat) (h : x < 18446744073709551616) : IntKind.u64.wrap (x : Int) = (x : Int) := by
  show (x : Int) % 2 ^ 64 = _
  rw [Int.emod_eq_of_lt (by omega) (by omega)]
theorem shr_k (x k m : Nat) (hk : k ≤ 32) (hm : m = 2 ^ k) : sev (.bin .shr) [.int .u32 (x : Int), .int .u64 (k : Int)] = some (.int .u32 ((x / m : Nat) : Int)) := by
  subst hm
  show pureSem (Op.shift .shr .u32 (x : Int) .u64 (k : Int)) = _
  unfold Op.shift
  rw [if_neg (by omega)]
  show some (Value.int .u32 ((x : Int).fdiv (2 ^ (min (k : Int).toNat 32)))) = _
  rw [Int.toNat_natCast, Nat.min_eq_left hk]
  congr 2
  have : ((2 : Int) ^ k) = ((2 ^ k : Nat) : Int) := by norm_cast
  rw [this]
  exact (Int.ofNat_fdiv x (2 ^ k)).symm
theorem conv8 (k : IntKind) (a : Nat) : sev (.conv .u8) [.int k (a : Int)] = some (.int .u8 ((a % 256 : Nat) : Int)) := by
  show some (Value.int .u8 ((a : Int) % 2 ^ 8)) = _
  congr 2
theorem conv64u (k : IntKind) (a : Nat) (h : a < 18446744073709551616) : sev (.conv .u64) [.int k (a : Int)] = some (.int .u64 (a : Int)) := by
  show some (Value.int .u64 (IntKind.u64.wrap (a : Int))) = _
  rw [w64 a h]
theorem wi64 {n : Int} (h0 : 0 ≤ n) (h : n < 9223372036854775808) : IntKind.i64.wrap n = n := by
  have e : n % 18446744073709551616 = n := Int.emod_eq_of_lt h0 (by omega)
  simp [IntKind.wrap, IntKind.bits, IntKind.signed, e]
  omega
theorem conv64i (k : IntKind) (a : Nat) (h : a < 9223372036854775808) : sev (.conv .i64) [.int k (a : Int)] = some (.int .i64 (a : Int)) := by
  show some (Value.int .i64 (IntKind.i64.wrap (a : Int))) = _
  rw [wi64 (by omega) (by omega)]
theorem shl8' {v : Nat} (h : v < 72057594037927936) : sev (.bin .shl) [.int .u64 (v : Int), .int .u64 8] = some (.int .u64 ((v * 256 : Nat) : Int)) := by
  show some (Value.int .u64 (IntKind.u64.wrap ((v : Int) * 2 ^ 8))) = _
  have : ((v : Int) * 2 ^ 8) = ((v * 256 : Nat) : Int) := by omega
  rw [this, w64 _ (by omega)]
theorem or8' {v b : Nat} (h : v < 72057594037927936) (hb : b < 256) : sev (.bin .or) [.int .u64 ((v * 256 : Nat) : Int), .int .u64 (b : Int)] = some (.int .u64 ((v * 256 + b : Nat) : Int)) := by
  show some (Value.int .u64 (IntKind.u64.wrap (((BitVec.ofInt 64 ((v * 256 : Nat) : Int)) ||| (BitVec.ofInt 64 (b : Int))).toNat : Int))) = _
  rw [BitVec.ofInt_natCast, BitVec.ofInt_natCast, BitVec.toNat_or, BitVec.toNat_ofNat, BitVec.toNat_ofNat, Nat.mod_eq_of_lt (by omega), Nat.mod_eq_of_lt (by omega)]
  have e : v * 256 ||| b = v * 256 + b := by
    have := Nat.two_pow_add_eq_or_of_lt (i := 8) (b := b) (by omega) v
    rw [Nat.mul_comm v 256]
    exact this.symm
  rw [e, w64 _ (by omega)]
theorem or0 {b : Nat} (hb : b < 256) : sev (.bin .or) [.int .u64 (.ofNat 0), .int .u64 (b : Int)] = some (.int .u64 (b : Int)) := by
  have := or8' (v := 0) (b := b) (by omega) hb
  rw [Nat.zero_mul, Nat.zero_add] at this
  exact this
def byS (a b c d : Nat) : Value := .string ⟨⟨[UInt8.ofNat a, UInt8.ofNat b, UInt8.ofNat c, UInt8.ofNat d]⟩⟩
theorem by_sev (a b c d : Nat) : sev .bytes [.int .u8 (a : Int), .int .u8 (b : Int), .int .u8 (c : Int), .int .u8 (d : Int)] = some (byS a b c d) := rfl
theorem u8n {a : Nat} (h : a < 256) : (((UInt8.ofNat a).toNat : Nat) : Int) = (a : Int) := by
  rw [UInt8.toNat_ofNat_of_lt' h]
theorem at0 {a b c d : Nat} (h : a < 256) : sev .sidx [byS a b c d, iv 0] = some (.int .u8 (a : Int)) := by
  show some (Value.int .u8 (((UInt8.ofNat a).toNat : Nat) : Int)) = _
  rw [u8n h]
theorem at1 {a b c d : Nat} (h : b < 256) : sev .sidx [byS a b c d, iv 1] = some (.int .u8 (b : Int)) := by
  show some (Value.int .u8 (((UInt8.ofNat b).toNat : Nat) : Int)) = _
  rw [u8n h]
theorem at2 {a b c d : Nat} (h : c < 256) : sev .sidx [byS a b c d, iv 2] = some (.int .u8 (c : Int)) := by
  show some (Value.int .u8 (((UInt8.ofNat c).toNat : Nat) : Int)) = _
  rw [u8n h]
theorem at3 {a b c d : Nat} (h : d < 256) : sev .sidx [byS a b c d, iv 3] = some (.int .u8 (d : Int)) := by
  show some (Value.int .u8 (((UInt8.ofNat d).toNat : Nat) : Int)) = _
  rw [u8n h]
theorem cmp_gtr (k : IntKind) (a : Nat) (c : Nat) : sev (.bin .gtr) [.int k (a : Int), .int k (.ofNat c)] = some (.bool (decide (c < a))) := by
  have : sev (.bin .gtr) [.int k (a : Int), .int k (.ofNat c)] = some (.bool (decide ((a : Int) > (c : Int)))) := by cases k <;> rfl
  rw [this]
  congr 2
  exact decide_eq_decide.2 (by omega)
theorem cmp_leq (k : IntKind) (a : Nat) (c : Nat) : sev (.bin .leq) [.int k (a : Int), .int k (.ofNat c)] = some (.bool (decide (a ≤ c))) := by
  have : sev (.bin .leq) [.int k (a : Int), .int k (.ofNat c)] = some (.bool (decide ((a : Int) ≤ (c : Int)))) := by cases k <;> rfl
  rw [this]
  congr 2
  exact decide_eq_decide.2 (by omega)
theorem cmp_lss (k : IntKind) (a : Nat) (c : Nat) : sev (.bin .lss) [.int k (a : Int), .int k (.ofNat c)] = some (.bool (decide (a < c))) := by
  have : sev (.bin .lss) [.int k (a : Int), .int k (.ofNat c)] = some (.bool (decide ((a : Int) < (c : Int)))) := by cases k <;> rfl
  rw [this]
  congr 2
  exact decide_eq_decide.2 (by omega)
theorem cmp_eql (k : IntKind) (a : Nat) (c : Nat) : sev (.bin .eql) [.int k (a : Int), .int k (.ofNat c)] = some (.bool (decide (a = c))) := by
  have : sev (.bin .eql) [.int k (a : Int), .int k (.ofNat c)] = some (.bool ((a : Int) == (c : Int))) := by cases k <;> rfl
  rw [this]
  congr 2
  by_cases h : a = c
  · subst h; simp
  · rw [decide_eq_false h]; simp; omega
end Go.Proofs.YtgddinljekkhdaaGreat.U
