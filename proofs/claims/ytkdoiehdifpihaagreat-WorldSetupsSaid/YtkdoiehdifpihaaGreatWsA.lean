/- WorldSetups: what its runs are made of: the numbers of a setup, the bytes of them, the memory behind New. -/
import Derived.Test.YtkdoiehdifpihaaGreatEngQ4
import Derived.Test.YtkdoiehdifpihaaGreatCk
import Derived.Test.YtkdoiehdifpihaaGreatAwR
namespace Go.Proofs.YtkdoiehdifpihaaGreat.Ws
open Go Go.Eng Go.RowKit

/-- the numbers: 0 to 4 the setup's, 5 the string, then what is computed of them -/
def csW (x y d m r : Int) (S : ByteArray) : List Value := [.int .i64 x,
  .int .i64 y,
  .int .i64 d,
  .int .i64 m,
  .int .i64 r,
  .string S,
  .int .u64 (IntKind.u64.wrap x),
  .int .u64 (IntKind.u64.wrap y),
  .int .u64 (IntKind.u64.wrap d),
  .int .u64 (IntKind.u64.wrap m),
  .int .u64 (IntKind.u64.wrap r),
  .int .i64 (x.fdiv (2 ^ 0)),
  .int .i64 (x.fdiv (2 ^ 8)),
  .int .i64 (x.fdiv (2 ^ 16)),
  .int .i64 (x.fdiv (2 ^ 24)),
  .int .i64 (x.fdiv (2 ^ 32)),
  .int .i64 (x.fdiv (2 ^ 40)),
  .int .i64 (x.fdiv (2 ^ 48)),
  .int .i64 (x.fdiv (2 ^ 56)),
  .int .i64 (y.fdiv (2 ^ 0)),
  .int .i64 (y.fdiv (2 ^ 8)),
  .int .i64 (y.fdiv (2 ^ 16)),
  .int .i64 (y.fdiv (2 ^ 24)),
  .int .i64 (y.fdiv (2 ^ 32)),
  .int .i64 (y.fdiv (2 ^ 40)),
  .int .i64 (y.fdiv (2 ^ 48)),
  .int .i64 (y.fdiv (2 ^ 56)),
  .int .i64 (d.fdiv (2 ^ 0)),
  .int .i64 (d.fdiv (2 ^ 8)),
  .int .i64 (d.fdiv (2 ^ 16)),
  .int .i64 (d.fdiv (2 ^ 24)),
  .int .i64 (d.fdiv (2 ^ 32)),
  .int .i64 (d.fdiv (2 ^ 40)),
  .int .i64 (d.fdiv (2 ^ 48)),
  .int .i64 (d.fdiv (2 ^ 56)),
  .int .i64 (m.fdiv (2 ^ 0)),
  .int .i64 (m.fdiv (2 ^ 8)),
  .int .i64 (m.fdiv (2 ^ 16)),
  .int .i64 (m.fdiv (2 ^ 24)),
  .int .i64 (m.fdiv (2 ^ 32)),
  .int .i64 (m.fdiv (2 ^ 40)),
  .int .i64 (m.fdiv (2 ^ 48)),
  .int .i64 (m.fdiv (2 ^ 56)),
  .int .i64 (r.fdiv (2 ^ 0)),
  .int .i64 (r.fdiv (2 ^ 8)),
  .int .i64 (r.fdiv (2 ^ 16)),
  .int .i64 (r.fdiv (2 ^ 24)),
  .int .i64 (r.fdiv (2 ^ 32)),
  .int .i64 (r.fdiv (2 ^ 40)),
  .int .i64 (r.fdiv (2 ^ 48)),
  .int .i64 (r.fdiv (2 ^ 56)),
  .int .u64 ((IntKind.u64.wrap x).fdiv (2 ^ 0)),
  .int .u64 ((IntKind.u64.wrap x).fdiv (2 ^ 8)),
  .int .u64 ((IntKind.u64.wrap x).fdiv (2 ^ 16)),
  .int .u64 ((IntKind.u64.wrap x).fdiv (2 ^ 24)),
  .int .u64 ((IntKind.u64.wrap x).fdiv (2 ^ 32)),
  .int .u64 ((IntKind.u64.wrap x).fdiv (2 ^ 40)),
  .int .u64 ((IntKind.u64.wrap x).fdiv (2 ^ 48)),
  .int .u64 ((IntKind.u64.wrap x).fdiv (2 ^ 56)),
  .int .u64 ((IntKind.u64.wrap y).fdiv (2 ^ 0)),
  .int .u64 ((IntKind.u64.wrap y).fdiv (2 ^ 8)),
  .int .u64 ((IntKind.u64.wrap y).fdiv (2 ^ 16)),
  .int .u64 ((IntKind.u64.wrap y).fdiv (2 ^ 24)),
  .int .u64 ((IntKind.u64.wrap y).fdiv (2 ^ 32)),
  .int .u64 ((IntKind.u64.wrap y).fdiv (2 ^ 40)),
  .int .u64 ((IntKind.u64.wrap y).fdiv (2 ^ 48)),
  .int .u64 ((IntKind.u64.wrap y).fdiv (2 ^ 56)),
  .int .u64 ((IntKind.u64.wrap d).fdiv (2 ^ 0)),
  .int .u64 ((IntKind.u64.wrap d).fdiv (2 ^ 8)),
  .int .u64 ((IntKind.u64.wrap d).fdiv (2 ^ 16)),
  .int .u64 ((IntKind.u64.wrap d).fdiv (2 ^ 24)),
  .int .u64 ((IntKind.u64.wrap d).fdiv (2 ^ 32)),
  .int .u64 ((IntKind.u64.wrap d).fdiv (2 ^ 40)),
  .int .u64 ((IntKind.u64.wrap d).fdiv (2 ^ 48)),
  .int .u64 ((IntKind.u64.wrap d).fdiv (2 ^ 56)),
  .int .u64 ((IntKind.u64.wrap m).fdiv (2 ^ 0)),
  .int .u64 ((IntKind.u64.wrap m).fdiv (2 ^ 8)),
  .int .u64 ((IntKind.u64.wrap m).fdiv (2 ^ 16)),
  .int .u64 ((IntKind.u64.wrap m).fdiv (2 ^ 24)),
  .int .u64 ((IntKind.u64.wrap m).fdiv (2 ^ 32)),
  .int .u64 ((IntKind.u64.wrap m).fdiv (2 ^ 40)),
  .int .u64 ((IntKind.u64.wrap m).fdiv (2 ^ 48)),
  .int .u64 ((IntKind.u64.wrap m).fdiv (2 ^ 56)),
  .int .u64 ((IntKind.u64.wrap r).fdiv (2 ^ 0)),
  .int .u64 ((IntKind.u64.wrap r).fdiv (2 ^ 8)),
  .int .u64 ((IntKind.u64.wrap r).fdiv (2 ^ 16)),
  .int .u64 ((IntKind.u64.wrap r).fdiv (2 ^ 24)),
  .int .u64 ((IntKind.u64.wrap r).fdiv (2 ^ 32)),
  .int .u64 ((IntKind.u64.wrap r).fdiv (2 ^ 40)),
  .int .u64 ((IntKind.u64.wrap r).fdiv (2 ^ 48)),
  .int .u64 ((IntKind.u64.wrap r).fdiv (2 ^ 56)),
  .int .u8 (IntKind.u8.wrap (x.fdiv (2 ^ 0))),
  .int .u8 (IntKind.u8.wrap (x.fdiv (2 ^ 8))),
  .int .u8 (IntKind.u8.wrap (x.fdiv (2 ^ 16))),
  .int .u8 (IntKind.u8.wrap (x.fdiv (2 ^ 24))),
  .int .u8 (IntKind.u8.wrap (x.fdiv (2 ^ 32))),
  .int .u8 (IntKind.u8.wrap (x.fdiv (2 ^ 40))),
  .int .u8 (IntKind.u8.wrap (x.fdiv (2 ^ 48))),
  .int .u8 (IntKind.u8.wrap (x.fdiv (2 ^ 56))),
  .int .u8 (IntKind.u8.wrap (y.fdiv (2 ^ 0))),
  .int .u8 (IntKind.u8.wrap (y.fdiv (2 ^ 8))),
  .int .u8 (IntKind.u8.wrap (y.fdiv (2 ^ 16))),
  .int .u8 (IntKind.u8.wrap (y.fdiv (2 ^ 24))),
  .int .u8 (IntKind.u8.wrap (y.fdiv (2 ^ 32))),
  .int .u8 (IntKind.u8.wrap (y.fdiv (2 ^ 40))),
  .int .u8 (IntKind.u8.wrap (y.fdiv (2 ^ 48))),
  .int .u8 (IntKind.u8.wrap (y.fdiv (2 ^ 56))),
  .int .u8 (IntKind.u8.wrap (d.fdiv (2 ^ 0))),
  .int .u8 (IntKind.u8.wrap (d.fdiv (2 ^ 8))),
  .int .u8 (IntKind.u8.wrap (d.fdiv (2 ^ 16))),
  .int .u8 (IntKind.u8.wrap (d.fdiv (2 ^ 24))),
  .int .u8 (IntKind.u8.wrap (d.fdiv (2 ^ 32))),
  .int .u8 (IntKind.u8.wrap (d.fdiv (2 ^ 40))),
  .int .u8 (IntKind.u8.wrap (d.fdiv (2 ^ 48))),
  .int .u8 (IntKind.u8.wrap (d.fdiv (2 ^ 56))),
  .int .u8 (IntKind.u8.wrap (m.fdiv (2 ^ 0))),
  .int .u8 (IntKind.u8.wrap (m.fdiv (2 ^ 8))),
  .int .u8 (IntKind.u8.wrap (m.fdiv (2 ^ 16))),
  .int .u8 (IntKind.u8.wrap (m.fdiv (2 ^ 24))),
  .int .u8 (IntKind.u8.wrap (m.fdiv (2 ^ 32))),
  .int .u8 (IntKind.u8.wrap (m.fdiv (2 ^ 40))),
  .int .u8 (IntKind.u8.wrap (m.fdiv (2 ^ 48))),
  .int .u8 (IntKind.u8.wrap (m.fdiv (2 ^ 56))),
  .int .u8 (IntKind.u8.wrap (r.fdiv (2 ^ 0))),
  .int .u8 (IntKind.u8.wrap (r.fdiv (2 ^ 8))),
  .int .u8 (IntKind.u8.wrap (r.fdiv (2 ^ 16))),
  .int .u8 (IntKind.u8.wrap (r.fdiv (2 ^ 24))),
  .int .u8 (IntKind.u8.wrap (r.fdiv (2 ^ 32))),
  .int .u8 (IntKind.u8.wrap (r.fdiv (2 ^ 40))),
  .int .u8 (IntKind.u8.wrap (r.fdiv (2 ^ 48))),
  .int .u8 (IntKind.u8.wrap (r.fdiv (2 ^ 56)))]
def valW (x y d m r : Int) (S : ByteArray) (n : Nat) : Value := match (csW x y d m r S)[n]? with
  | some v => v
  | none => .int .i64 0

theorem hiW (x y d m r : Int) (S : ByteArray) (n : Nat) : isOneV (valW x y d m r S n) = true := by
  have ha : (csW x y d m r S).all isOneV = true := rfl
  unfold valW
  split
  · rename_i v hv
    exact List.all_eq_true.1 ha v (List.mem_of_getElem? hv)
  · rfl

def bW (x y d m r : Int) (n : Nat) : Nat := ([(IntKind.u8.wrap (x.fdiv (2 ^ 0))).toNat,
  (IntKind.u8.wrap (x.fdiv (2 ^ 8))).toNat,
  (IntKind.u8.wrap (x.fdiv (2 ^ 16))).toNat,
  (IntKind.u8.wrap (x.fdiv (2 ^ 24))).toNat,
  (IntKind.u8.wrap (x.fdiv (2 ^ 32))).toNat,
  (IntKind.u8.wrap (x.fdiv (2 ^ 40))).toNat,
  (IntKind.u8.wrap (x.fdiv (2 ^ 48))).toNat,
  (IntKind.u8.wrap (x.fdiv (2 ^ 56))).toNat,
  (IntKind.u8.wrap (y.fdiv (2 ^ 0))).toNat,
  (IntKind.u8.wrap (y.fdiv (2 ^ 8))).toNat,
  (IntKind.u8.wrap (y.fdiv (2 ^ 16))).toNat,
  (IntKind.u8.wrap (y.fdiv (2 ^ 24))).toNat,
  (IntKind.u8.wrap (y.fdiv (2 ^ 32))).toNat,
  (IntKind.u8.wrap (y.fdiv (2 ^ 40))).toNat,
  (IntKind.u8.wrap (y.fdiv (2 ^ 48))).toNat,
  (IntKind.u8.wrap (y.fdiv (2 ^ 56))).toNat,
  (IntKind.u8.wrap (d.fdiv (2 ^ 0))).toNat,
  (IntKind.u8.wrap (d.fdiv (2 ^ 8))).toNat,
  (IntKind.u8.wrap (d.fdiv (2 ^ 16))).toNat,
  (IntKind.u8.wrap (d.fdiv (2 ^ 24))).toNat,
  (IntKind.u8.wrap (d.fdiv (2 ^ 32))).toNat,
  (IntKind.u8.wrap (d.fdiv (2 ^ 40))).toNat,
  (IntKind.u8.wrap (d.fdiv (2 ^ 48))).toNat,
  (IntKind.u8.wrap (d.fdiv (2 ^ 56))).toNat,
  (IntKind.u8.wrap (m.fdiv (2 ^ 0))).toNat,
  (IntKind.u8.wrap (m.fdiv (2 ^ 8))).toNat,
  (IntKind.u8.wrap (m.fdiv (2 ^ 16))).toNat,
  (IntKind.u8.wrap (m.fdiv (2 ^ 24))).toNat,
  (IntKind.u8.wrap (m.fdiv (2 ^ 32))).toNat,
  (IntKind.u8.wrap (m.fdiv (2 ^ 40))).toNat,
  (IntKind.u8.wrap (m.fdiv (2 ^ 48))).toNat,
  (IntKind.u8.wrap (m.fdiv (2 ^ 56))).toNat,
  (IntKind.u8.wrap (r.fdiv (2 ^ 0))).toNat,
  (IntKind.u8.wrap (r.fdiv (2 ^ 8))).toNat,
  (IntKind.u8.wrap (r.fdiv (2 ^ 16))).toNat,
  (IntKind.u8.wrap (r.fdiv (2 ^ 24))).toNat,
  (IntKind.u8.wrap (r.fdiv (2 ^ 32))).toNat,
  (IntKind.u8.wrap (r.fdiv (2 ^ 40))).toNat,
  (IntKind.u8.wrap (r.fdiv (2 ^ 48))).toNat,
  (IntKind.u8.wrap (r.fdiv (2 ^ 56))).toNat] : List Nat).getD n 0

def zcell : Value := .int .u8 (.ofNat 0)
def hdr : List Value := [(.int .u8 (.ofNat 98)), (.int .u8 (.ofNat 103)), (.int .u8 (.ofNat 108)), (.int .u8 (.ofNat 49)), sv 98, sv 97, sv 96, sv 95, sv 94, sv 93, sv 92, sv 91, sv 106, sv 105, sv 104, sv 103, sv 102, sv 101, sv 100, sv 99, sv 114, sv 113, sv 112, sv 111, sv 110, sv 109, sv 108, sv 107, sv 122, sv 121, sv 120, sv 119, sv 118, sv 117, sv 116, sv 115, sv 130, sv 129, sv 128, sv 127, sv 126, sv 125, sv 124, sv 123]
/-- the cells of the first n bytes (n from 44 on) -/
def bytesL (n : Nat) : List Value := hdr ++ List.replicate (n - 44) zcell
def eb (b : Nat → Nat) (q : Nat) : List UInt8 := [UInt8.ofNat (b (8 * q + 7)), UInt8.ofNat (b (8 * q + 6)), UInt8.ofNat (b (8 * q + 5)), UInt8.ofNat (b (8 * q + 4)), UInt8.ofNat (b (8 * q + 3)), UInt8.ofNat (b (8 * q + 2)), UInt8.ofNat (b (8 * q + 1)), UInt8.ofNat (b (8 * q))]
/-- the bytes of a new world -/
def sB (b : Nat → Nat) (k : Nat) : List UInt8 := [98, 103, 108, 49] ++ eb b 0 ++ eb b 1 ++ eb b 2 ++ [0, 0, 0, 0, 0, 0, 0, UInt8.ofNat k] ++ eb b 4 ++ List.replicate (24 + 16 * k) 0

def bytesR (k : Nat) : SRule := .bytes (bytesL (68 + 16 * k)) (sv 5)
def lssR (k : Nat) : List SRule := (List.range (k + 1)).map fun i => .bin .lss (iv i) (sv 3) (.bool (Nat.blt i k))
def tabW (b : Nat → Nat) (k : Nat) : List SRule := .bin .shr (sv 0) (.int .u64 (.ofNat 0)) (sv 11) ::
  .conv .u8 (sv 11) (sv 91) ::
  .conv .u64 (sv 0) (sv 6) ::
  .bin .shr (sv 6) (.int .u64 (.ofNat 0)) (sv 51) ::
  .conv .u8 (sv 51) (.int .u8 (.ofNat (b 0))) ::
  .bin .shr (sv 0) (.int .u64 (.ofNat 8)) (sv 12) ::
  .conv .u8 (sv 12) (sv 92) ::
  .bin .shr (sv 6) (.int .u64 (.ofNat 8)) (sv 52) ::
  .conv .u8 (sv 52) (.int .u8 (.ofNat (b 1))) ::
  .bin .shr (sv 0) (.int .u64 (.ofNat 16)) (sv 13) ::
  .conv .u8 (sv 13) (sv 93) ::
  .bin .shr (sv 6) (.int .u64 (.ofNat 16)) (sv 53) ::
  .conv .u8 (sv 53) (.int .u8 (.ofNat (b 2))) ::
  .bin .shr (sv 0) (.int .u64 (.ofNat 24)) (sv 14) ::
  .conv .u8 (sv 14) (sv 94) ::
  .bin .shr (sv 6) (.int .u64 (.ofNat 24)) (sv 54) ::
  .conv .u8 (sv 54) (.int .u8 (.ofNat (b 3))) ::
  .bin .shr (sv 0) (.int .u64 (.ofNat 32)) (sv 15) ::
  .conv .u8 (sv 15) (sv 95) ::
  .bin .shr (sv 6) (.int .u64 (.ofNat 32)) (sv 55) ::
  .conv .u8 (sv 55) (.int .u8 (.ofNat (b 4))) ::
  .bin .shr (sv 0) (.int .u64 (.ofNat 40)) (sv 16) ::
  .conv .u8 (sv 16) (sv 96) ::
  .bin .shr (sv 6) (.int .u64 (.ofNat 40)) (sv 56) ::
  .conv .u8 (sv 56) (.int .u8 (.ofNat (b 5))) ::
  .bin .shr (sv 0) (.int .u64 (.ofNat 48)) (sv 17) ::
  .conv .u8 (sv 17) (sv 97) ::
  .bin .shr (sv 6) (.int .u64 (.ofNat 48)) (sv 57) ::
  .conv .u8 (sv 57) (.int .u8 (.ofNat (b 6))) ::
  .bin .shr (sv 0) (.int .u64 (.ofNat 56)) (sv 18) ::
  .conv .u8 (sv 18) (sv 98) ::
  .bin .shr (sv 6) (.int .u64 (.ofNat 56)) (sv 58) ::
  .conv .u8 (sv 58) (.int .u8 (.ofNat (b 7))) ::
  .bin .shr (sv 1) (.int .u64 (.ofNat 0)) (sv 19) ::
  .conv .u8 (sv 19) (sv 99) ::
  .conv .u64 (sv 1) (sv 7) ::
  .bin .shr (sv 7) (.int .u64 (.ofNat 0)) (sv 59) ::
  .conv .u8 (sv 59) (.int .u8 (.ofNat (b 8))) ::
  .bin .shr (sv 1) (.int .u64 (.ofNat 8)) (sv 20) ::
  .conv .u8 (sv 20) (sv 100) ::
  .bin .shr (sv 7) (.int .u64 (.ofNat 8)) (sv 60) ::
  .conv .u8 (sv 60) (.int .u8 (.ofNat (b 9))) ::
  .bin .shr (sv 1) (.int .u64 (.ofNat 16)) (sv 21) ::
  .conv .u8 (sv 21) (sv 101) ::
  .bin .shr (sv 7) (.int .u64 (.ofNat 16)) (sv 61) ::
  .conv .u8 (sv 61) (.int .u8 (.ofNat (b 10))) ::
  .bin .shr (sv 1) (.int .u64 (.ofNat 24)) (sv 22) ::
  .conv .u8 (sv 22) (sv 102) ::
  .bin .shr (sv 7) (.int .u64 (.ofNat 24)) (sv 62) ::
  .conv .u8 (sv 62) (.int .u8 (.ofNat (b 11))) ::
  .bin .shr (sv 1) (.int .u64 (.ofNat 32)) (sv 23) ::
  .conv .u8 (sv 23) (sv 103) ::
  .bin .shr (sv 7) (.int .u64 (.ofNat 32)) (sv 63) ::
  .conv .u8 (sv 63) (.int .u8 (.ofNat (b 12))) ::
  .bin .shr (sv 1) (.int .u64 (.ofNat 40)) (sv 24) ::
  .conv .u8 (sv 24) (sv 104) ::
  .bin .shr (sv 7) (.int .u64 (.ofNat 40)) (sv 64) ::
  .conv .u8 (sv 64) (.int .u8 (.ofNat (b 13))) ::
  .bin .shr (sv 1) (.int .u64 (.ofNat 48)) (sv 25) ::
  .conv .u8 (sv 25) (sv 105) ::
  .bin .shr (sv 7) (.int .u64 (.ofNat 48)) (sv 65) ::
  .conv .u8 (sv 65) (.int .u8 (.ofNat (b 14))) ::
  .bin .shr (sv 1) (.int .u64 (.ofNat 56)) (sv 26) ::
  .conv .u8 (sv 26) (sv 106) ::
  .bin .shr (sv 7) (.int .u64 (.ofNat 56)) (sv 66) ::
  .conv .u8 (sv 66) (.int .u8 (.ofNat (b 15))) ::
  .bin .shr (sv 2) (.int .u64 (.ofNat 0)) (sv 27) ::
  .conv .u8 (sv 27) (sv 107) ::
  .conv .u64 (sv 2) (sv 8) ::
  .bin .shr (sv 8) (.int .u64 (.ofNat 0)) (sv 67) ::
  .conv .u8 (sv 67) (.int .u8 (.ofNat (b 16))) ::
  .bin .shr (sv 2) (.int .u64 (.ofNat 8)) (sv 28) ::
  .conv .u8 (sv 28) (sv 108) ::
  .bin .shr (sv 8) (.int .u64 (.ofNat 8)) (sv 68) ::
  .conv .u8 (sv 68) (.int .u8 (.ofNat (b 17))) ::
  .bin .shr (sv 2) (.int .u64 (.ofNat 16)) (sv 29) ::
  .conv .u8 (sv 29) (sv 109) ::
  .bin .shr (sv 8) (.int .u64 (.ofNat 16)) (sv 69) ::
  .conv .u8 (sv 69) (.int .u8 (.ofNat (b 18))) ::
  .bin .shr (sv 2) (.int .u64 (.ofNat 24)) (sv 30) ::
  .conv .u8 (sv 30) (sv 110) ::
  .bin .shr (sv 8) (.int .u64 (.ofNat 24)) (sv 70) ::
  .conv .u8 (sv 70) (.int .u8 (.ofNat (b 19))) ::
  .bin .shr (sv 2) (.int .u64 (.ofNat 32)) (sv 31) ::
  .conv .u8 (sv 31) (sv 111) ::
  .bin .shr (sv 8) (.int .u64 (.ofNat 32)) (sv 71) ::
  .conv .u8 (sv 71) (.int .u8 (.ofNat (b 20))) ::
  .bin .shr (sv 2) (.int .u64 (.ofNat 40)) (sv 32) ::
  .conv .u8 (sv 32) (sv 112) ::
  .bin .shr (sv 8) (.int .u64 (.ofNat 40)) (sv 72) ::
  .conv .u8 (sv 72) (.int .u8 (.ofNat (b 21))) ::
  .bin .shr (sv 2) (.int .u64 (.ofNat 48)) (sv 33) ::
  .conv .u8 (sv 33) (sv 113) ::
  .bin .shr (sv 8) (.int .u64 (.ofNat 48)) (sv 73) ::
  .conv .u8 (sv 73) (.int .u8 (.ofNat (b 22))) ::
  .bin .shr (sv 2) (.int .u64 (.ofNat 56)) (sv 34) ::
  .conv .u8 (sv 34) (sv 114) ::
  .bin .shr (sv 8) (.int .u64 (.ofNat 56)) (sv 74) ::
  .conv .u8 (sv 74) (.int .u8 (.ofNat (b 23))) ::
  .bin .shr (sv 3) (.int .u64 (.ofNat 0)) (sv 35) ::
  .conv .u8 (sv 35) (sv 115) ::
  .bin .shr (sv 3) (.int .u64 (.ofNat 8)) (sv 36) ::
  .conv .u8 (sv 36) (sv 116) ::
  .bin .shr (sv 3) (.int .u64 (.ofNat 16)) (sv 37) ::
  .conv .u8 (sv 37) (sv 117) ::
  .bin .shr (sv 3) (.int .u64 (.ofNat 24)) (sv 38) ::
  .conv .u8 (sv 38) (sv 118) ::
  .bin .shr (sv 3) (.int .u64 (.ofNat 32)) (sv 39) ::
  .conv .u8 (sv 39) (sv 119) ::
  .bin .shr (sv 3) (.int .u64 (.ofNat 40)) (sv 40) ::
  .conv .u8 (sv 40) (sv 120) ::
  .bin .shr (sv 3) (.int .u64 (.ofNat 48)) (sv 41) ::
  .conv .u8 (sv 41) (sv 121) ::
  .bin .shr (sv 3) (.int .u64 (.ofNat 56)) (sv 42) ::
  .conv .u8 (sv 42) (sv 122) ::
  .bin .shr (sv 4) (.int .u64 (.ofNat 0)) (sv 43) ::
  .conv .u8 (sv 43) (sv 123) ::
  .conv .u64 (sv 4) (sv 10) ::
  .bin .shr (sv 10) (.int .u64 (.ofNat 0)) (sv 83) ::
  .conv .u8 (sv 83) (.int .u8 (.ofNat (b 32))) ::
  .bin .shr (sv 4) (.int .u64 (.ofNat 8)) (sv 44) ::
  .conv .u8 (sv 44) (sv 124) ::
  .bin .shr (sv 10) (.int .u64 (.ofNat 8)) (sv 84) ::
  .conv .u8 (sv 84) (.int .u8 (.ofNat (b 33))) ::
  .bin .shr (sv 4) (.int .u64 (.ofNat 16)) (sv 45) ::
  .conv .u8 (sv 45) (sv 125) ::
  .bin .shr (sv 10) (.int .u64 (.ofNat 16)) (sv 85) ::
  .conv .u8 (sv 85) (.int .u8 (.ofNat (b 34))) ::
  .bin .shr (sv 4) (.int .u64 (.ofNat 24)) (sv 46) ::
  .conv .u8 (sv 46) (sv 126) ::
  .bin .shr (sv 10) (.int .u64 (.ofNat 24)) (sv 86) ::
  .conv .u8 (sv 86) (.int .u8 (.ofNat (b 35))) ::
  .bin .shr (sv 4) (.int .u64 (.ofNat 32)) (sv 47) ::
  .conv .u8 (sv 47) (sv 127) ::
  .bin .shr (sv 10) (.int .u64 (.ofNat 32)) (sv 87) ::
  .conv .u8 (sv 87) (.int .u8 (.ofNat (b 36))) ::
  .bin .shr (sv 4) (.int .u64 (.ofNat 40)) (sv 48) ::
  .conv .u8 (sv 48) (sv 128) ::
  .bin .shr (sv 10) (.int .u64 (.ofNat 40)) (sv 88) ::
  .conv .u8 (sv 88) (.int .u8 (.ofNat (b 37))) ::
  .bin .shr (sv 4) (.int .u64 (.ofNat 48)) (sv 49) ::
  .conv .u8 (sv 49) (sv 129) ::
  .bin .shr (sv 10) (.int .u64 (.ofNat 48)) (sv 89) ::
  .conv .u8 (sv 89) (.int .u8 (.ofNat (b 38))) ::
  .bin .shr (sv 4) (.int .u64 (.ofNat 56)) (sv 50) ::
  .conv .u8 (sv 50) (sv 130) ::
  .bin .shr (sv 10) (.int .u64 (.ofNat 56)) (sv 90) ::
  .conv .u8 (sv 90) (.int .u8 (.ofNat (b 39))) ::
  .bin .eql (sv 0) (sv 0) (.bool true) ::
  .bin .eql (sv 1) (sv 1) (.bool true) ::
  .bin .eql (sv 2) (sv 2) (.bool true) ::
  .bin .eql (sv 4) (sv 4) (.bool true) ::
  .streq (sv 5) (sv 5) true ::
  bytesR k :: lssR k

theorem u8_nonneg (v : Int) : 0 ≤ IntKind.u8.wrap v ∧ IntKind.u8.wrap v < 256 := by
  show 0 ≤ v % 256 ∧ v % 256 < 256
  omega
theorem byteP (v : Int) : Value.int .u8 (.ofNat (IntKind.u8.wrap v).toNat) = .int .u8 (IntKind.u8.wrap v) := by
  have : Int.ofNat (IntKind.u8.wrap v).toNat = IntKind.u8.wrap v := Int.toNat_of_nonneg (u8_nonneg v).1
  rw [this]
theorem byteQ (v w : Int) (h : v % 256 = w % 256) : Value.int .u8 (.ofNat (IntKind.u8.wrap v).toNat) = .int .u8 (IntKind.u8.wrap w) := by
  rw [byteP]
  have : IntKind.u8.wrap v = IntKind.u8.wrap w := h
  rw [this]
theorem byteU (v : Int) : Value.int .u8 (IntKind.u8.wrap v) = .int .u8 ((UInt8.ofNat (IntKind.u8.wrap v).toNat).toNat : Int) := by
  have h := u8_nonneg v
  have h2 : (UInt8.ofNat (IntKind.u8.wrap v).toNat).toNat = (IntKind.u8.wrap v).toNat := by
    rw [UInt8.toNat_ofNat_of_lt' (by show _ < 256; omega)]
  rw [h2, Int.toNat_of_nonneg h.1]
theorem byteR0 (v : Int) : Value.int .u8 (.ofNat (IntKind.u8.wrap (v.fdiv (2 ^ 0))).toNat) = .int .u8 (IntKind.u8.wrap ((IntKind.u64.wrap v).fdiv (2 ^ 0))) := by
  refine byteQ _ _ ?_
  rw [Int.fdiv_eq_ediv_of_nonneg _ (by decide), Int.fdiv_eq_ediv_of_nonneg _ (by decide)]
  show v / 1 % 256 = v % 18446744073709551616 / 1 % 256
  omega
theorem byteR8 (v : Int) : Value.int .u8 (.ofNat (IntKind.u8.wrap (v.fdiv (2 ^ 8))).toNat) = .int .u8 (IntKind.u8.wrap ((IntKind.u64.wrap v).fdiv (2 ^ 8))) := by
  refine byteQ _ _ ?_
  rw [Int.fdiv_eq_ediv_of_nonneg _ (by decide), Int.fdiv_eq_ediv_of_nonneg _ (by decide)]
  show v / 256 % 256 = v % 18446744073709551616 / 256 % 256
  omega
theorem byteR16 (v : Int) : Value.int .u8 (.ofNat (IntKind.u8.wrap (v.fdiv (2 ^ 16))).toNat) = .int .u8 (IntKind.u8.wrap ((IntKind.u64.wrap v).fdiv (2 ^ 16))) := by
  refine byteQ _ _ ?_
  rw [Int.fdiv_eq_ediv_of_nonneg _ (by decide), Int.fdiv_eq_ediv_of_nonneg _ (by decide)]
  show v / 65536 % 256 = v % 18446744073709551616 / 65536 % 256
  omega
theorem byteR24 (v : Int) : Value.int .u8 (.ofNat (IntKind.u8.wrap (v.fdiv (2 ^ 24))).toNat) = .int .u8 (IntKind.u8.wrap ((IntKind.u64.wrap v).fdiv (2 ^ 24))) := by
  refine byteQ _ _ ?_
  rw [Int.fdiv_eq_ediv_of_nonneg _ (by decide), Int.fdiv_eq_ediv_of_nonneg _ (by decide)]
  show v / 16777216 % 256 = v % 18446744073709551616 / 16777216 % 256
  omega
theorem byteR32 (v : Int) : Value.int .u8 (.ofNat (IntKind.u8.wrap (v.fdiv (2 ^ 32))).toNat) = .int .u8 (IntKind.u8.wrap ((IntKind.u64.wrap v).fdiv (2 ^ 32))) := by
  refine byteQ _ _ ?_
  rw [Int.fdiv_eq_ediv_of_nonneg _ (by decide), Int.fdiv_eq_ediv_of_nonneg _ (by decide)]
  show v / 4294967296 % 256 = v % 18446744073709551616 / 4294967296 % 256
  omega
theorem byteR40 (v : Int) : Value.int .u8 (.ofNat (IntKind.u8.wrap (v.fdiv (2 ^ 40))).toNat) = .int .u8 (IntKind.u8.wrap ((IntKind.u64.wrap v).fdiv (2 ^ 40))) := by
  refine byteQ _ _ ?_
  rw [Int.fdiv_eq_ediv_of_nonneg _ (by decide), Int.fdiv_eq_ediv_of_nonneg _ (by decide)]
  show v / 1099511627776 % 256 = v % 18446744073709551616 / 1099511627776 % 256
  omega
theorem byteR48 (v : Int) : Value.int .u8 (.ofNat (IntKind.u8.wrap (v.fdiv (2 ^ 48))).toNat) = .int .u8 (IntKind.u8.wrap ((IntKind.u64.wrap v).fdiv (2 ^ 48))) := by
  refine byteQ _ _ ?_
  rw [Int.fdiv_eq_ediv_of_nonneg _ (by decide), Int.fdiv_eq_ediv_of_nonneg _ (by decide)]
  show v / 281474976710656 % 256 = v % 18446744073709551616 / 281474976710656 % 256
  omega
theorem byteR56 (v : Int) : Value.int .u8 (.ofNat (IntKind.u8.wrap (v.fdiv (2 ^ 56))).toNat) = .int .u8 (IntKind.u8.wrap ((IntKind.u64.wrap v).fdiv (2 ^ 56))) := by
  refine byteQ _ _ ?_
  rw [Int.fdiv_eq_ediv_of_nonneg _ (by decide), Int.fdiv_eq_ediv_of_nonneg _ (by decide)]
  show v / 72057594037927936 % 256 = v % 18446744073709551616 / 72057594037927936 % 256
  omega
theorem byteK0 (k : Nat) (h : k ≤ 64) : UInt8.ofNat (IntKind.u8.wrap ((Int.ofNat k).fdiv (2 ^ 0))).toNat = UInt8.ofNat k := by
  have : (IntKind.u8.wrap ((Int.ofNat k).fdiv (2 ^ 0))).toNat = k := by
    rw [Int.fdiv_eq_ediv_of_nonneg _ (by decide)]
    show (((k : Int) / 1) % 256).toNat = k
    omega
  rw [this]
theorem byteK8 (k : Nat) (h : k ≤ 64) : UInt8.ofNat (IntKind.u8.wrap ((Int.ofNat k).fdiv (2 ^ 8))).toNat = 0 := by
  have : (IntKind.u8.wrap ((Int.ofNat k).fdiv (2 ^ 8))).toNat = 0 := by
    rw [Int.fdiv_eq_ediv_of_nonneg _ (by decide)]
    show (((k : Int) / 256) % 256).toNat = 0
    omega
  rw [this]
  rfl
theorem byteK16 (k : Nat) (h : k ≤ 64) : UInt8.ofNat (IntKind.u8.wrap ((Int.ofNat k).fdiv (2 ^ 16))).toNat = 0 := by
  have : (IntKind.u8.wrap ((Int.ofNat k).fdiv (2 ^ 16))).toNat = 0 := by
    rw [Int.fdiv_eq_ediv_of_nonneg _ (by decide)]
    show (((k : Int) / 65536) % 256).toNat = 0
    omega
  rw [this]
  rfl
theorem byteK24 (k : Nat) (h : k ≤ 64) : UInt8.ofNat (IntKind.u8.wrap ((Int.ofNat k).fdiv (2 ^ 24))).toNat = 0 := by
  have : (IntKind.u8.wrap ((Int.ofNat k).fdiv (2 ^ 24))).toNat = 0 := by
    rw [Int.fdiv_eq_ediv_of_nonneg _ (by decide)]
    show (((k : Int) / 16777216) % 256).toNat = 0
    omega
  rw [this]
  rfl
theorem byteK32 (k : Nat) (h : k ≤ 64) : UInt8.ofNat (IntKind.u8.wrap ((Int.ofNat k).fdiv (2 ^ 32))).toNat = 0 := by
  have : (IntKind.u8.wrap ((Int.ofNat k).fdiv (2 ^ 32))).toNat = 0 := by
    rw [Int.fdiv_eq_ediv_of_nonneg _ (by decide)]
    show (((k : Int) / 4294967296) % 256).toNat = 0
    omega
  rw [this]
  rfl
theorem byteK40 (k : Nat) (h : k ≤ 64) : UInt8.ofNat (IntKind.u8.wrap ((Int.ofNat k).fdiv (2 ^ 40))).toNat = 0 := by
  have : (IntKind.u8.wrap ((Int.ofNat k).fdiv (2 ^ 40))).toNat = 0 := by
    rw [Int.fdiv_eq_ediv_of_nonneg _ (by decide)]
    show (((k : Int) / 1099511627776) % 256).toNat = 0
    omega
  rw [this]
  rfl
theorem byteK48 (k : Nat) (h : k ≤ 64) : UInt8.ofNat (IntKind.u8.wrap ((Int.ofNat k).fdiv (2 ^ 48))).toNat = 0 := by
  have : (IntKind.u8.wrap ((Int.ofNat k).fdiv (2 ^ 48))).toNat = 0 := by
    rw [Int.fdiv_eq_ediv_of_nonneg _ (by decide)]
    show (((k : Int) / 281474976710656) % 256).toNat = 0
    omega
  rw [this]
  rfl
theorem byteK56 (k : Nat) (h : k ≤ 64) : UInt8.ofNat (IntKind.u8.wrap ((Int.ofNat k).fdiv (2 ^ 56))).toNat = 0 := by
  have : (IntKind.u8.wrap ((Int.ofNat k).fdiv (2 ^ 56))).toNat = 0 := by
    rw [Int.fdiv_eq_ediv_of_nonneg _ (by decide)]
    show (((k : Int) / 72057594037927936) % 256).toNat = 0
    omega
  rw [this]
  rfl

theorem lssOk (x y d r : Int) (k : Nat) (S : ByteArray := ⟨⟨sB (bW x y d (Int.ofNat k) r) k⟩⟩) : ∀ q ∈ lssR k, q.good (valW x y d (Int.ofNat k) r S) := by
  intro q hq
  obtain ⟨i, _, rfl⟩ := List.mem_map.1 hq
  refine goodC (k := .i64) (a := Int.ofNat i) (b := Int.ofNat k) rfl rfl rfl rfl rfl ?_
  show decide ((Int.ofNat i) < Int.ofNat k) = Nat.blt i k
  cases hb : Nat.blt i k with
  | true => exact decide_eq_true (Int.ofNat_lt.2 (blt_lt hb))
  | false =>
    refine decide_eq_false fun h => ?_
    have := Int.ofNat_lt.1 h
    rw [blt_true this] at hb
    cases hb

theorem bytesOk (x y d r : Int) (k : Nat) (h : k ≤ 64) : (bytesR k).good (valW x y d (Int.ofNat k) r ⟨⟨sB (bW x y d (Int.ofNat k) r) k⟩⟩) := by
  refine ⟨rfl, sB (bW x y d (Int.ofNat k) r) k, ?_, ?_, rfl⟩
  · unfold bytesL
    rw [List.all_append]
    have : (List.replicate (68 + 16 * k - 44) zcell).all isScR = true := by
      rw [List.all_eq_true]
      intro v hv
      rw [List.eq_of_mem_replicate hv]
      rfl
    rw [this]
    rfl
  · have hr : (List.replicate (68 + 16 * k - 44) zcell).map (den (valW x y d (Int.ofNat k) r ⟨⟨sB (bW x y d (Int.ofNat k) r) k⟩⟩)) = (List.replicate (24 + 16 * k) (0 : UInt8)).map (fun (u : UInt8) => Value.int .u8 (u.toNat : Int)) := by
      rw [List.map_replicate, List.map_replicate, show 68 + 16 * k - 44 = 24 + 16 * k by omega]
      rfl
    have hh : hdr.map (den (valW x y d (Int.ofNat k) r ⟨⟨sB (bW x y d (Int.ofNat k) r) k⟩⟩)) = ([98, 103, 108, 49] ++ eb (bW x y d (Int.ofNat k) r) 0 ++ eb (bW x y d (Int.ofNat k) r) 1 ++ eb (bW x y d (Int.ofNat k) r) 2 ++ eb (bW x y d (Int.ofNat k) r) 3 ++ eb (bW x y d (Int.ofNat k) r) 4).map (fun (u : UInt8) => Value.int .u8 (u.toNat : Int)) := by
      show [.int .u8 (.ofNat 98), .int .u8 (.ofNat 103), .int .u8 (.ofNat 108), .int .u8 (.ofNat 49), .int .u8 (IntKind.u8.wrap (x.fdiv (2 ^ 56))), .int .u8 (IntKind.u8.wrap (x.fdiv (2 ^ 48))), .int .u8 (IntKind.u8.wrap (x.fdiv (2 ^ 40))), .int .u8 (IntKind.u8.wrap (x.fdiv (2 ^ 32))), .int .u8 (IntKind.u8.wrap (x.fdiv (2 ^ 24))), .int .u8 (IntKind.u8.wrap (x.fdiv (2 ^ 16))), .int .u8 (IntKind.u8.wrap (x.fdiv (2 ^ 8))), .int .u8 (IntKind.u8.wrap (x.fdiv (2 ^ 0))), .int .u8 (IntKind.u8.wrap (y.fdiv (2 ^ 56))), .int .u8 (IntKind.u8.wrap (y.fdiv (2 ^ 48))), .int .u8 (IntKind.u8.wrap (y.fdiv (2 ^ 40))), .int .u8 (IntKind.u8.wrap (y.fdiv (2 ^ 32))), .int .u8 (IntKind.u8.wrap (y.fdiv (2 ^ 24))), .int .u8 (IntKind.u8.wrap (y.fdiv (2 ^ 16))), .int .u8 (IntKind.u8.wrap (y.fdiv (2 ^ 8))), .int .u8 (IntKind.u8.wrap (y.fdiv (2 ^ 0))), .int .u8 (IntKind.u8.wrap (d.fdiv (2 ^ 56))), .int .u8 (IntKind.u8.wrap (d.fdiv (2 ^ 48))), .int .u8 (IntKind.u8.wrap (d.fdiv (2 ^ 40))), .int .u8 (IntKind.u8.wrap (d.fdiv (2 ^ 32))), .int .u8 (IntKind.u8.wrap (d.fdiv (2 ^ 24))), .int .u8 (IntKind.u8.wrap (d.fdiv (2 ^ 16))), .int .u8 (IntKind.u8.wrap (d.fdiv (2 ^ 8))), .int .u8 (IntKind.u8.wrap (d.fdiv (2 ^ 0))), .int .u8 (IntKind.u8.wrap ((Int.ofNat k).fdiv (2 ^ 56))), .int .u8 (IntKind.u8.wrap ((Int.ofNat k).fdiv (2 ^ 48))), .int .u8 (IntKind.u8.wrap ((Int.ofNat k).fdiv (2 ^ 40))), .int .u8 (IntKind.u8.wrap ((Int.ofNat k).fdiv (2 ^ 32))), .int .u8 (IntKind.u8.wrap ((Int.ofNat k).fdiv (2 ^ 24))), .int .u8 (IntKind.u8.wrap ((Int.ofNat k).fdiv (2 ^ 16))), .int .u8 (IntKind.u8.wrap ((Int.ofNat k).fdiv (2 ^ 8))), .int .u8 (IntKind.u8.wrap ((Int.ofNat k).fdiv (2 ^ 0))), .int .u8 (IntKind.u8.wrap (r.fdiv (2 ^ 56))), .int .u8 (IntKind.u8.wrap (r.fdiv (2 ^ 48))), .int .u8 (IntKind.u8.wrap (r.fdiv (2 ^ 40))), .int .u8 (IntKind.u8.wrap (r.fdiv (2 ^ 32))), .int .u8 (IntKind.u8.wrap (r.fdiv (2 ^ 24))), .int .u8 (IntKind.u8.wrap (r.fdiv (2 ^ 16))), .int .u8 (IntKind.u8.wrap (r.fdiv (2 ^ 8))), .int .u8 (IntKind.u8.wrap (r.fdiv (2 ^ 0)))] = (_ : List Value)
      simp only [byteU]
      rfl
    have hm : eb (bW x y d (Int.ofNat k) r) 3 = [0, 0, 0, 0, 0, 0, 0, UInt8.ofNat k] := by
      show [UInt8.ofNat (IntKind.u8.wrap ((Int.ofNat k).fdiv (2 ^ 56))).toNat, UInt8.ofNat (IntKind.u8.wrap ((Int.ofNat k).fdiv (2 ^ 48))).toNat, UInt8.ofNat (IntKind.u8.wrap ((Int.ofNat k).fdiv (2 ^ 40))).toNat, UInt8.ofNat (IntKind.u8.wrap ((Int.ofNat k).fdiv (2 ^ 32))).toNat, UInt8.ofNat (IntKind.u8.wrap ((Int.ofNat k).fdiv (2 ^ 24))).toNat, UInt8.ofNat (IntKind.u8.wrap ((Int.ofNat k).fdiv (2 ^ 16))).toNat, UInt8.ofNat (IntKind.u8.wrap ((Int.ofNat k).fdiv (2 ^ 8))).toNat, UInt8.ofNat (IntKind.u8.wrap ((Int.ofNat k).fdiv (2 ^ 0))).toNat] = (_ : List UInt8)
      rw [byteK56 k h, byteK48 k h, byteK40 k h, byteK32 k h, byteK24 k h, byteK16 k h, byteK8 k h, byteK0 k h]
    unfold bytesL
    rw [List.map_append, hr, hh, hm, ← List.map_append]
    rfl

set_option maxRecDepth 100000 in
theorem okW (x y d r : Int) (k : Nat) (h : k ≤ 64) : ∀ q ∈ tabW (bW x y d (Int.ofNat k) r) k, q.good (valW x y d (Int.ofNat k) r ⟨⟨sB (bW x y d (Int.ofNat k) r) k⟩⟩) :=
  List.forall_mem_cons.2 ⟨goodShr 0 (by decide) rfl rfl, List.forall_mem_cons.2 ⟨goodConv (k := .i64) (a := x.fdiv (2 ^ 0)) rfl rfl rfl, List.forall_mem_cons.2 ⟨goodConv (k := .i64) rfl rfl rfl, List.forall_mem_cons.2 ⟨goodShr 0 (by decide) rfl rfl, List.forall_mem_cons.2 ⟨goodConv (k := .u64) (a := (IntKind.u64.wrap x).fdiv (2 ^ 0)) rfl rfl (byteR0 _), List.forall_mem_cons.2 ⟨goodShr 8 (by decide) rfl rfl, List.forall_mem_cons.2 ⟨goodConv (k := .i64) (a := x.fdiv (2 ^ 8)) rfl rfl rfl, List.forall_mem_cons.2 ⟨goodShr 8 (by decide) rfl rfl, List.forall_mem_cons.2 ⟨goodConv (k := .u64) (a := (IntKind.u64.wrap x).fdiv (2 ^ 8)) rfl rfl (byteR8 _), List.forall_mem_cons.2 ⟨goodShr 16 (by decide) rfl rfl, List.forall_mem_cons.2 ⟨goodConv (k := .i64) (a := x.fdiv (2 ^ 16)) rfl rfl rfl, List.forall_mem_cons.2 ⟨goodShr 16 (by decide) rfl rfl, List.forall_mem_cons.2 ⟨goodConv (k := .u64) (a := (IntKind.u64.wrap x).fdiv (2 ^ 16)) rfl rfl (byteR16 _), List.forall_mem_cons.2 ⟨goodShr 24 (by decide) rfl rfl, List.forall_mem_cons.2 ⟨goodConv (k := .i64) (a := x.fdiv (2 ^ 24)) rfl rfl rfl, List.forall_mem_cons.2 ⟨goodShr 24 (by decide) rfl rfl, List.forall_mem_cons.2 ⟨goodConv (k := .u64) (a := (IntKind.u64.wrap x).fdiv (2 ^ 24)) rfl rfl (byteR24 _), List.forall_mem_cons.2 ⟨goodShr 32 (by decide) rfl rfl, List.forall_mem_cons.2 ⟨goodConv (k := .i64) (a := x.fdiv (2 ^ 32)) rfl rfl rfl, List.forall_mem_cons.2 ⟨goodShr 32 (by decide) rfl rfl, List.forall_mem_cons.2 ⟨goodConv (k := .u64) (a := (IntKind.u64.wrap x).fdiv (2 ^ 32)) rfl rfl (byteR32 _), List.forall_mem_cons.2 ⟨goodShr 40 (by decide) rfl rfl, List.forall_mem_cons.2 ⟨goodConv (k := .i64) (a := x.fdiv (2 ^ 40)) rfl rfl rfl, List.forall_mem_cons.2 ⟨goodShr 40 (by decide) rfl rfl, List.forall_mem_cons.2 ⟨goodConv (k := .u64) (a := (IntKind.u64.wrap x).fdiv (2 ^ 40)) rfl rfl (byteR40 _), List.forall_mem_cons.2 ⟨goodShr 48 (by decide) rfl rfl, List.forall_mem_cons.2 ⟨goodConv (k := .i64) (a := x.fdiv (2 ^ 48)) rfl rfl rfl, List.forall_mem_cons.2 ⟨goodShr 48 (by decide) rfl rfl, List.forall_mem_cons.2 ⟨goodConv (k := .u64) (a := (IntKind.u64.wrap x).fdiv (2 ^ 48)) rfl rfl (byteR48 _), List.forall_mem_cons.2 ⟨goodShr 56 (by decide) rfl rfl, List.forall_mem_cons.2 ⟨goodConv (k := .i64) (a := x.fdiv (2 ^ 56)) rfl rfl rfl, List.forall_mem_cons.2 ⟨goodShr 56 (by decide) rfl rfl, List.forall_mem_cons.2 ⟨goodConv (k := .u64) (a := (IntKind.u64.wrap x).fdiv (2 ^ 56)) rfl rfl (byteR56 _), List.forall_mem_cons.2 ⟨goodShr 0 (by decide) rfl rfl, List.forall_mem_cons.2 ⟨goodConv (k := .i64) (a := y.fdiv (2 ^ 0)) rfl rfl rfl, List.forall_mem_cons.2 ⟨goodConv (k := .i64) rfl rfl rfl, List.forall_mem_cons.2 ⟨goodShr 0 (by decide) rfl rfl, List.forall_mem_cons.2 ⟨goodConv (k := .u64) (a := (IntKind.u64.wrap y).fdiv (2 ^ 0)) rfl rfl (byteR0 _), List.forall_mem_cons.2 ⟨goodShr 8 (by decide) rfl rfl, List.forall_mem_cons.2 ⟨goodConv (k := .i64) (a := y.fdiv (2 ^ 8)) rfl rfl rfl, List.forall_mem_cons.2 ⟨goodShr 8 (by decide) rfl rfl, List.forall_mem_cons.2 ⟨goodConv (k := .u64) (a := (IntKind.u64.wrap y).fdiv (2 ^ 8)) rfl rfl (byteR8 _), List.forall_mem_cons.2 ⟨goodShr 16 (by decide) rfl rfl, List.forall_mem_cons.2 ⟨goodConv (k := .i64) (a := y.fdiv (2 ^ 16)) rfl rfl rfl, List.forall_mem_cons.2 ⟨goodShr 16 (by decide) rfl rfl, List.forall_mem_cons.2 ⟨goodConv (k := .u64) (a := (IntKind.u64.wrap y).fdiv (2 ^ 16)) rfl rfl (byteR16 _), List.forall_mem_cons.2 ⟨goodShr 24 (by decide) rfl rfl, List.forall_mem_cons.2 ⟨goodConv (k := .i64) (a := y.fdiv (2 ^ 24)) rfl rfl rfl, List.forall_mem_cons.2 ⟨goodShr 24 (by decide) rfl rfl, List.forall_mem_cons.2 ⟨goodConv (k := .u64) (a := (IntKind.u64.wrap y).fdiv (2 ^ 24)) rfl rfl (byteR24 _), List.forall_mem_cons.2 ⟨goodShr 32 (by decide) rfl rfl, List.forall_mem_cons.2 ⟨goodConv (k := .i64) (a := y.fdiv (2 ^ 32)) rfl rfl rfl, List.forall_mem_cons.2 ⟨goodShr 32 (by decide) rfl rfl, List.forall_mem_cons.2 ⟨goodConv (k := .u64) (a := (IntKind.u64.wrap y).fdiv (2 ^ 32)) rfl rfl (byteR32 _), List.forall_mem_cons.2 ⟨goodShr 40 (by decide) rfl rfl, List.forall_mem_cons.2 ⟨goodConv (k := .i64) (a := y.fdiv (2 ^ 40)) rfl rfl rfl, List.forall_mem_cons.2 ⟨goodShr 40 (by decide) rfl rfl, List.forall_mem_cons.2 ⟨goodConv (k := .u64) (a := (IntKind.u64.wrap y).fdiv (2 ^ 40)) rfl rfl (byteR40 _), List.forall_mem_cons.2 ⟨goodShr 48 (by decide) rfl rfl, List.forall_mem_cons.2 ⟨goodConv (k := .i64) (a := y.fdiv (2 ^ 48)) rfl rfl rfl, List.forall_mem_cons.2 ⟨goodShr 48 (by decide) rfl rfl, List.forall_mem_cons.2 ⟨goodConv (k := .u64) (a := (IntKind.u64.wrap y).fdiv (2 ^ 48)) rfl rfl (byteR48 _), List.forall_mem_cons.2 ⟨goodShr 56 (by decide) rfl rfl, List.forall_mem_cons.2 ⟨goodConv (k := .i64) (a := y.fdiv (2 ^ 56)) rfl rfl rfl, List.forall_mem_cons.2 ⟨goodShr 56 (by decide) rfl rfl, List.forall_mem_cons.2 ⟨goodConv (k := .u64) (a := (IntKind.u64.wrap y).fdiv (2 ^ 56)) rfl rfl (byteR56 _), List.forall_mem_cons.2 ⟨goodShr 0 (by decide) rfl rfl, List.forall_mem_cons.2 ⟨goodConv (k := .i64) (a := d.fdiv (2 ^ 0)) rfl rfl rfl, List.forall_mem_cons.2 ⟨goodConv (k := .i64) rfl rfl rfl, List.forall_mem_cons.2 ⟨goodShr 0 (by decide) rfl rfl, List.forall_mem_cons.2 ⟨goodConv (k := .u64) (a := (IntKind.u64.wrap d).fdiv (2 ^ 0)) rfl rfl (byteR0 _), List.forall_mem_cons.2 ⟨goodShr 8 (by decide) rfl rfl, List.forall_mem_cons.2 ⟨goodConv (k := .i64) (a := d.fdiv (2 ^ 8)) rfl rfl rfl, List.forall_mem_cons.2 ⟨goodShr 8 (by decide) rfl rfl, List.forall_mem_cons.2 ⟨goodConv (k := .u64) (a := (IntKind.u64.wrap d).fdiv (2 ^ 8)) rfl rfl (byteR8 _), List.forall_mem_cons.2 ⟨goodShr 16 (by decide) rfl rfl, List.forall_mem_cons.2 ⟨goodConv (k := .i64) (a := d.fdiv (2 ^ 16)) rfl rfl rfl, List.forall_mem_cons.2 ⟨goodShr 16 (by decide) rfl rfl, List.forall_mem_cons.2 ⟨goodConv (k := .u64) (a := (IntKind.u64.wrap d).fdiv (2 ^ 16)) rfl rfl (byteR16 _), List.forall_mem_cons.2 ⟨goodShr 24 (by decide) rfl rfl, List.forall_mem_cons.2 ⟨goodConv (k := .i64) (a := d.fdiv (2 ^ 24)) rfl rfl rfl, List.forall_mem_cons.2 ⟨goodShr 24 (by decide) rfl rfl, List.forall_mem_cons.2 ⟨goodConv (k := .u64) (a := (IntKind.u64.wrap d).fdiv (2 ^ 24)) rfl rfl (byteR24 _), List.forall_mem_cons.2 ⟨goodShr 32 (by decide) rfl rfl, List.forall_mem_cons.2 ⟨goodConv (k := .i64) (a := d.fdiv (2 ^ 32)) rfl rfl rfl, List.forall_mem_cons.2 ⟨goodShr 32 (by decide) rfl rfl, List.forall_mem_cons.2 ⟨goodConv (k := .u64) (a := (IntKind.u64.wrap d).fdiv (2 ^ 32)) rfl rfl (byteR32 _), List.forall_mem_cons.2 ⟨goodShr 40 (by decide) rfl rfl, List.forall_mem_cons.2 ⟨goodConv (k := .i64) (a := d.fdiv (2 ^ 40)) rfl rfl rfl, List.forall_mem_cons.2 ⟨goodShr 40 (by decide) rfl rfl, List.forall_mem_cons.2 ⟨goodConv (k := .u64) (a := (IntKind.u64.wrap d).fdiv (2 ^ 40)) rfl rfl (byteR40 _), List.forall_mem_cons.2 ⟨goodShr 48 (by decide) rfl rfl, List.forall_mem_cons.2 ⟨goodConv (k := .i64) (a := d.fdiv (2 ^ 48)) rfl rfl rfl, List.forall_mem_cons.2 ⟨goodShr 48 (by decide) rfl rfl, List.forall_mem_cons.2 ⟨goodConv (k := .u64) (a := (IntKind.u64.wrap d).fdiv (2 ^ 48)) rfl rfl (byteR48 _), List.forall_mem_cons.2 ⟨goodShr 56 (by decide) rfl rfl, List.forall_mem_cons.2 ⟨goodConv (k := .i64) (a := d.fdiv (2 ^ 56)) rfl rfl rfl, List.forall_mem_cons.2 ⟨goodShr 56 (by decide) rfl rfl, List.forall_mem_cons.2 ⟨goodConv (k := .u64) (a := (IntKind.u64.wrap d).fdiv (2 ^ 56)) rfl rfl (byteR56 _), List.forall_mem_cons.2 ⟨goodShr 0 (by decide) rfl rfl, List.forall_mem_cons.2 ⟨goodConv (k := .i64) (a := (Int.ofNat k).fdiv (2 ^ 0)) rfl rfl rfl, List.forall_mem_cons.2 ⟨goodShr 8 (by decide) rfl rfl, List.forall_mem_cons.2 ⟨goodConv (k := .i64) (a := (Int.ofNat k).fdiv (2 ^ 8)) rfl rfl rfl, List.forall_mem_cons.2 ⟨goodShr 16 (by decide) rfl rfl, List.forall_mem_cons.2 ⟨goodConv (k := .i64) (a := (Int.ofNat k).fdiv (2 ^ 16)) rfl rfl rfl, List.forall_mem_cons.2 ⟨goodShr 24 (by decide) rfl rfl, List.forall_mem_cons.2 ⟨goodConv (k := .i64) (a := (Int.ofNat k).fdiv (2 ^ 24)) rfl rfl rfl, List.forall_mem_cons.2 ⟨goodShr 32 (by decide) rfl rfl, List.forall_mem_cons.2 ⟨goodConv (k := .i64) (a := (Int.ofNat k).fdiv (2 ^ 32)) rfl rfl rfl, List.forall_mem_cons.2 ⟨goodShr 40 (by decide) rfl rfl, List.forall_mem_cons.2 ⟨goodConv (k := .i64) (a := (Int.ofNat k).fdiv (2 ^ 40)) rfl rfl rfl, List.forall_mem_cons.2 ⟨goodShr 48 (by decide) rfl rfl, List.forall_mem_cons.2 ⟨goodConv (k := .i64) (a := (Int.ofNat k).fdiv (2 ^ 48)) rfl rfl rfl, List.forall_mem_cons.2 ⟨goodShr 56 (by decide) rfl rfl, List.forall_mem_cons.2 ⟨goodConv (k := .i64) (a := (Int.ofNat k).fdiv (2 ^ 56)) rfl rfl rfl, List.forall_mem_cons.2 ⟨goodShr 0 (by decide) rfl rfl, List.forall_mem_cons.2 ⟨goodConv (k := .i64) (a := r.fdiv (2 ^ 0)) rfl rfl rfl, List.forall_mem_cons.2 ⟨goodConv (k := .i64) rfl rfl rfl, List.forall_mem_cons.2 ⟨goodShr 0 (by decide) rfl rfl, List.forall_mem_cons.2 ⟨goodConv (k := .u64) (a := (IntKind.u64.wrap r).fdiv (2 ^ 0)) rfl rfl (byteR0 _), List.forall_mem_cons.2 ⟨goodShr 8 (by decide) rfl rfl, List.forall_mem_cons.2 ⟨goodConv (k := .i64) (a := r.fdiv (2 ^ 8)) rfl rfl rfl, List.forall_mem_cons.2 ⟨goodShr 8 (by decide) rfl rfl, List.forall_mem_cons.2 ⟨goodConv (k := .u64) (a := (IntKind.u64.wrap r).fdiv (2 ^ 8)) rfl rfl (byteR8 _), List.forall_mem_cons.2 ⟨goodShr 16 (by decide) rfl rfl, List.forall_mem_cons.2 ⟨goodConv (k := .i64) (a := r.fdiv (2 ^ 16)) rfl rfl rfl, List.forall_mem_cons.2 ⟨goodShr 16 (by decide) rfl rfl, List.forall_mem_cons.2 ⟨goodConv (k := .u64) (a := (IntKind.u64.wrap r).fdiv (2 ^ 16)) rfl rfl (byteR16 _), List.forall_mem_cons.2 ⟨goodShr 24 (by decide) rfl rfl, List.forall_mem_cons.2 ⟨goodConv (k := .i64) (a := r.fdiv (2 ^ 24)) rfl rfl rfl, List.forall_mem_cons.2 ⟨goodShr 24 (by decide) rfl rfl, List.forall_mem_cons.2 ⟨goodConv (k := .u64) (a := (IntKind.u64.wrap r).fdiv (2 ^ 24)) rfl rfl (byteR24 _), List.forall_mem_cons.2 ⟨goodShr 32 (by decide) rfl rfl, List.forall_mem_cons.2 ⟨goodConv (k := .i64) (a := r.fdiv (2 ^ 32)) rfl rfl rfl, List.forall_mem_cons.2 ⟨goodShr 32 (by decide) rfl rfl, List.forall_mem_cons.2 ⟨goodConv (k := .u64) (a := (IntKind.u64.wrap r).fdiv (2 ^ 32)) rfl rfl (byteR32 _), List.forall_mem_cons.2 ⟨goodShr 40 (by decide) rfl rfl, List.forall_mem_cons.2 ⟨goodConv (k := .i64) (a := r.fdiv (2 ^ 40)) rfl rfl rfl, List.forall_mem_cons.2 ⟨goodShr 40 (by decide) rfl rfl, List.forall_mem_cons.2 ⟨goodConv (k := .u64) (a := (IntKind.u64.wrap r).fdiv (2 ^ 40)) rfl rfl (byteR40 _), List.forall_mem_cons.2 ⟨goodShr 48 (by decide) rfl rfl, List.forall_mem_cons.2 ⟨goodConv (k := .i64) (a := r.fdiv (2 ^ 48)) rfl rfl rfl, List.forall_mem_cons.2 ⟨goodShr 48 (by decide) rfl rfl, List.forall_mem_cons.2 ⟨goodConv (k := .u64) (a := (IntKind.u64.wrap r).fdiv (2 ^ 48)) rfl rfl (byteR48 _), List.forall_mem_cons.2 ⟨goodShr 56 (by decide) rfl rfl, List.forall_mem_cons.2 ⟨goodConv (k := .i64) (a := r.fdiv (2 ^ 56)) rfl rfl rfl, List.forall_mem_cons.2 ⟨goodShr 56 (by decide) rfl rfl, List.forall_mem_cons.2 ⟨goodConv (k := .u64) (a := (IntKind.u64.wrap r).fdiv (2 ^ 56)) rfl rfl (byteR56 _), List.forall_mem_cons.2 ⟨good_self ⟨_, _, rfl⟩, List.forall_mem_cons.2 ⟨good_self ⟨_, _, rfl⟩, List.forall_mem_cons.2 ⟨good_self ⟨_, _, rfl⟩, List.forall_mem_cons.2 ⟨good_self ⟨_, _, rfl⟩, List.forall_mem_cons.2 ⟨⟨_, _, rfl, rfl, by simp⟩, List.forall_mem_cons.2 ⟨bytesOk x y d r k h, lssOk x y d r k⟩⟩⟩⟩⟩⟩⟩⟩⟩⟩⟩⟩⟩⟩⟩⟩⟩⟩⟩⟩⟩⟩⟩⟩⟩⟩⟩⟩⟩⟩⟩⟩⟩⟩⟩⟩⟩⟩⟩⟩⟩⟩⟩⟩⟩⟩⟩⟩⟩⟩⟩⟩⟩⟩⟩⟩⟩⟩⟩⟩⟩⟩⟩⟩⟩⟩⟩⟩⟩⟩⟩⟩⟩⟩⟩⟩⟩⟩⟩⟩⟩⟩⟩⟩⟩⟩⟩⟩⟩⟩⟩⟩⟩⟩⟩⟩⟩⟩⟩⟩⟩⟩⟩⟩⟩⟩⟩⟩⟩⟩⟩⟩⟩⟩⟩⟩⟩⟩⟩⟩⟩⟩⟩⟩⟩⟩⟩⟩⟩⟩⟩⟩⟩⟩⟩⟩⟩⟩⟩⟩⟩⟩⟩⟩⟩⟩⟩⟩⟩⟩⟩⟩⟩⟩

/-- the cells of bodies that are not there -/
def bodies (k : Nat) : List Value := (List.replicate k ([(iv 0), (iv 0), (iv 0), (iv 0), (.slice none 0 0), (iv 0), (.bool false), (iv 0), (.bool false), (iv 0), (.bool false), (iv 0), (.bool false), (iv 0), (.bool false), (iv 0), (.bool false), (iv 0), (.bool false), (iv 0), (.bool false), (iv 0), (.bool false), (iv 0), (.bool false), (.bool false), (iv 0)] : List Value)).flatten
/-- the blocks that the program's bytes are made of; the number of bodies as it is, or as the number 3 -/
def preM (v : Value) (k : Nat) : List (Nat × LB) := [(0, .dead), (10, .cells [.pointer (some ⟨9, 0, none⟩)]), (9, .cells [.pointer (some ⟨4, 0, none⟩), .pointer (some ⟨7, 0, none⟩), sv 0, .bool false, sv 1, .bool false, sv 2, .bool false, v, sv 4, .slice (some ⟨8, 0, none⟩) k k, .slice none 0 0, iv 0, iv 0]), (4, .cells [.int .u64 (.ofNat 0), .slice (some ⟨3, 0, none⟩) k k]), (3, .cells (List.replicate k (iv 0))), (7, .cells [.map (some 6)]), (6, .map [] 0), (8, .cells (bodies k))]
def preP (k : Nat) : List (Nat × LB) := preM (iv k) k
def preS (k : Nat) : List (Nat × LB) := preM (sv 3) k
/-- the reference's -/
def preR (k : Nat) : List (Nat × LB) := [(0, .dead), (15, .cells [sv 0, .bool false, sv 1, .bool false, sv 2, .bool false, iv k, sv 4, .slice (some ⟨12, 0, none⟩) k k, .slice (some ⟨13, 0, none⟩) k k, .slice (some ⟨14, 0, none⟩) k k, iv 0, iv 0, .slice none 0 0]), (12, .cells (List.replicate k (iv 0))), (13, .cells (List.replicate k (.bool false))), (14, .cells (bodies k))]

def segP (k : Nat) : Seg := ⟨20, [.pointer (some ⟨10, 0, none⟩)], 16, preP k, sv 5, 16, preP k⟩
def segR (k : Nat) : Seg := ⟨21, [.pointer (some ⟨15, 0, none⟩)], 16, preR k, sv 5, 16, preR k⟩
/-- 'put' of a slot's numbers: generation 0, not taken -/
def segS (i : Nat) : Seg := ⟨62, [.pointer (some ⟨17, 0, none⟩), .slice (some ⟨135 + 35 * i, 0, none⟩) 2 2], 136 + 35 * i,
  [(0, .dead), (17, .cells [.slice (some ⟨132 + 35 * i, 0, some 1⟩) (60 + 16 * i) (60 + 16 * i)]), (132 + 35 * i, .cells (bytesL (60 + 16 * i))), (135 + 35 * i, .cells [iv 0, iv 0])], .tuple ⟨[]⟩, 168 + 35 * i,
  [(0, .dead), (17, .cells [.slice (some ⟨167 + 35 * i, 0, some 1⟩) (76 + 16 * i) (76 + 16 * i)]), (167 + 35 * i, .cells (bytesL (76 + 16 * i)))]⟩
/-- 'put' of the gravity, and of what follows -/
def segH0 : Seg := ⟨62, [.pointer (some ⟨17, 0, none⟩), .slice (some ⟨19, 0, none⟩) 2 2], 20,
  [(0, .dead), (17, .cells [.slice (some ⟨16, 0, none⟩) 4 4]), (16, .ro (hdr.take 4)), (19, .cells [sv 0, sv 1])], .tuple ⟨[]⟩, 52,
  [(0, .dead), (17, .cells [.slice (some ⟨51, 0, some 1⟩) 20 20]), (51, .cells (hdr.take 20))]⟩
def segH1 : Seg := ⟨62, [.pointer (some ⟨17, 0, none⟩), .slice (some ⟨52, 0, none⟩) 5 5], 53,
  [(0, .dead), (17, .cells [.slice (some ⟨51, 0, some 1⟩) 20 20]), (51, .cells (hdr.take 20)), (52, .cells [sv 2, sv 3, sv 4, iv 0, iv 0])], .tuple ⟨[]⟩, 133,
  [(0, .dead), (17, .cells [.slice (some ⟨132, 0, some 1⟩) 60 60]), (132, .cells (bytesL 60))]⟩

theorem segsOK : (List.range 65).all (fun k => segOK (segP k) && segOK (segR k) && segOK (segS k)) = true := by kernel_rfl
theorem segOK_at {k : Nat} (h : k ≤ 64) : segOK (segP k) = true ∧ segOK (segR k) = true ∧ segOK (segS k) = true := by
  have := List.all_eq_true.1 segsOK k (List.mem_range.2 (by omega))
  simp only [Bool.and_eq_true] at this
  exact ⟨this.1.1, this.1.2, this.2⟩
theorem preSok : (List.range 65).all (fun k => memOK 16 (preS k)) = true := by kernel_rfl
theorem preS_at {k : Nat} (h : k ≤ 64) : ∀ p ∈ preS k, p.1 < 16 ∧ ubB p.2 ≤ 16 := by
  have := List.all_eq_true.1 preSok k (List.mem_range.2 (by omega))
  unfold memOK at this
  simp only [Bool.and_eq_true, List.all_eq_true] at this
  exact fun p hp => ⟨blt_lt (this.2 p hp).1, Nat.le_of_ble_eq_true (this.2 p hp).2⟩
theorem segH0ok : segOK segH0 = true := by kernel_rfl
theorem segH1ok : segOK segH1 = true := by kernel_rfl

def argW (k : Nat) : Value := .agg ⟨[sv 0, .bool false, sv 1, .bool false, sv 2, .bool false, iv k, sv 4]⟩
noncomputable def primsW (k : Nat) : PrimT := primOr (ansPrim 18 [argW k] (iv 0)) (primOr (ansPrim 19 [argW k] (iv 0)) (primOr (segPrim [20, 21] [segP k, segR k]) (prim1 23 primTrue)))

/-- number(0) is eight bytes 0 -/
def tN : MT := .n .e (match pkey [iv 0] 72 with | some k => k | none => 0) 72 [iv 0] (.string ⟨⟨[0, 0, 0, 0, 0, 0, 0, 0]⟩⟩) .e
def kmN : Nat := 4722366482869645213696
theorem tNok [SymV] [SymT] : tN.good (fun g args => callM Tryz.prog ⟨304, 306, 1000000⟩ (fun _ => none) [] 0 0 100000 50 g args m0) = true := by kernel_rfl
theorem tNk [SymV] [SymT] : MemoOK Tryz.prog [tN] := fun t h => by
  rcases List.mem_singleton.1 h with rfl
  exact good_ok (callM_sound pok (noPrim _) (fun _ h => by cases h) 0 0 100000 50) tNok

theorem bool_call [SymV] [SymT] {P : Program} {call : CallT} (hcs : CallSound P call) {g : FuncId} {args args' : List Value} {b : Bool} (h : isVal (call g args (mem 1 memS)) (.bool b) = true) (ha : VRL phiS args args') (w : World) :
    Calls P g ⟨args'⟩ w fun e w' => e = .returned (.bool b) ∧ Below w.heap.size w w' := by
  refine (val_call hcs h ha w).mono fun e w' ⟨r, φ', he, hv, hb⟩ => ?_
  cases hv
  exact ⟨he, hb⟩

def argI (fx fy fd : Bool) : Value := .agg ⟨[sv 0, .bool fx, sv 1, .bool fy, sv 2, .bool fd, sv 3, sv 4]⟩
noncomputable def primsI (fx fy fd : Bool) : PrimT := primOr (ansPrim 18 [argI fx fy fd] (iv 3)) (primOr (ansPrim 19 [argI fx fy fd] (iv 3)) (prim1 23 primTrue))
theorem bad_fff (val : Nat → Value) (hi : ∀ n, isOneV (val n) = true) : letI : SymV := ⟨val, hi⟩; letI : SymT := ⟨[], fun _ h => by cases h⟩; isVal (callFF Tryz.prog ⟨304, 306, 1000000⟩ (primsI false false false) 100000 100 4 [argI false false false] (mem 1 memS)) (.bool true) = true := by kernel_rfl
theorem bad_fft (val : Nat → Value) (hi : ∀ n, isOneV (val n) = true) : letI : SymV := ⟨val, hi⟩; letI : SymT := ⟨[], fun _ h => by cases h⟩; isVal (callFF Tryz.prog ⟨304, 306, 1000000⟩ (primsI false false true) 100000 100 4 [argI false false true] (mem 1 memS)) (.bool true) = true := by kernel_rfl
theorem bad_ftf (val : Nat → Value) (hi : ∀ n, isOneV (val n) = true) : letI : SymV := ⟨val, hi⟩; letI : SymT := ⟨[], fun _ h => by cases h⟩; isVal (callFF Tryz.prog ⟨304, 306, 1000000⟩ (primsI false true false) 100000 100 4 [argI false true false] (mem 1 memS)) (.bool true) = true := by kernel_rfl
theorem bad_ftt (val : Nat → Value) (hi : ∀ n, isOneV (val n) = true) : letI : SymV := ⟨val, hi⟩; letI : SymT := ⟨[], fun _ h => by cases h⟩; isVal (callFF Tryz.prog ⟨304, 306, 1000000⟩ (primsI false true true) 100000 100 4 [argI false true true] (mem 1 memS)) (.bool true) = true := by kernel_rfl
theorem bad_tff (val : Nat → Value) (hi : ∀ n, isOneV (val n) = true) : letI : SymV := ⟨val, hi⟩; letI : SymT := ⟨[], fun _ h => by cases h⟩; isVal (callFF Tryz.prog ⟨304, 306, 1000000⟩ (primsI true false false) 100000 100 4 [argI true false false] (mem 1 memS)) (.bool true) = true := by kernel_rfl
theorem bad_tft (val : Nat → Value) (hi : ∀ n, isOneV (val n) = true) : letI : SymV := ⟨val, hi⟩; letI : SymT := ⟨[], fun _ h => by cases h⟩; isVal (callFF Tryz.prog ⟨304, 306, 1000000⟩ (primsI true false true) 100000 100 4 [argI true false true] (mem 1 memS)) (.bool true) = true := by kernel_rfl
theorem bad_ttf (val : Nat → Value) (hi : ∀ n, isOneV (val n) = true) : letI : SymV := ⟨val, hi⟩; letI : SymT := ⟨[], fun _ h => by cases h⟩; isVal (callFF Tryz.prog ⟨304, 306, 1000000⟩ (primsI true true false) 100000 100 4 [argI true true false] (mem 1 memS)) (.bool true) = true := by kernel_rfl
theorem bad_ttt (val : Nat → Value) (hi : ∀ n, isOneV (val n) = true) : letI : SymV := ⟨val, hi⟩; letI : SymT := ⟨[], fun _ h => by cases h⟩; isVal (callFF Tryz.prog ⟨304, 306, 1000000⟩ (primsI true true true) 100000 100 4 [argI true true true] (mem 1 memS)) (.bool true) = true := by kernel_rfl

theorem bad (x y d m r : Int) (fx fy fd : Bool) (hx : -9223372036854775808 ≤ x ∧ x ≤ 9223372036854775807) (hy : -9223372036854775808 ≤ y ∧ y ≤ 9223372036854775807) (h : ckS x fx y fy d fd m r = 3) (w : World) :
    Calls Tryz.prog 4 ⟨[.agg ⟨[.int .i64 x, .bool fx, .int .i64 y, .bool fy, .int .i64 d, .bool fd, .int .i64 m, .int .i64 r]⟩]⟩ w fun e w' => e = .returned (.bool true) ∧ Below w.heap.size w w' := by
  have hi : ∀ n, isOneV (cellVal [.int .i64 x, .int .i64 y, .int .i64 d, .int .i64 m, .int .i64 r] n) = true := fun n => oneV_int (cellVal_int _ n)
  letI S : SymV := ⟨cellVal [.int .i64 x, .int .i64 y, .int .i64 d, .int .i64 m, .int .i64 r], hi⟩
  letI TT : SymT := ⟨[], fun _ h => by cases h⟩
  have hp : PrimOK Tryz.prog (primsI fx fy fd) := primOr_ok (ansPrim_ok (fun φ args' w ha => by
      rw [agg_den rfl ha]; have q := ckP x y d m r fx fy fd hx hy w; rw [h] at q; exact q)) (primOr_ok (ansPrim_ok (fun φ args' w ha => by
      rw [agg_den rfl ha]; have q := ckR x y d m r fx fy fd w; rw [h] at q; exact q)) (prim1_ok Aw.known))
  have run : isVal (callFF Tryz.prog ⟨304, 306, 1000000⟩ (primsI fx fy fd) 100000 100 4 [argI fx fy fd] (mem 1 memS)) (.bool true) = true := by
    cases fx <;> cases fy <;> cases fd
    · exact bad_fff _ hi
    · exact bad_fft _ hi
    · exact bad_ftf _ hi
    · exact bad_ftt _ hi
    · exact bad_tff _ hi
    · exact bad_tft _ hi
    · exact bad_ttf _ hi
    · exact bad_ttt _ hi
  exact bool_call (ffSound hp 100000 100) run (.cons _ _ [] [] (.agg _ _ (.cons _ _ _ _ (.sym _ _ _ _ rfl) (.cons _ _ _ _ (.bool fx) (.cons _ _ _ _ (.sym _ _ _ _ rfl) (.cons _ _ _ _ (.bool fy) (.cons _ _ _ _ (.sym _ _ _ _ rfl) (.cons _ _ _ _ (.bool fd) (.cons _ _ _ _ (.sym _ _ _ _ rfl) (.cons _ _ [] [] (.sym _ _ _ _ rfl) .nil))))))))) .nil) w
end Go.Proofs.YtkdoiehdifpihaaGreat.Ws
