/- WorldSetups: put's segments. -/
import Derived.Test.YtkdoiehdifpihaaGreatWsS0
import Derived.Test.YtkdoiehdifpihaaGreatWsS1
import Derived.Test.YtkdoiehdifpihaaGreatWsS2
import Derived.Test.YtkdoiehdifpihaaGreatWsS3
namespace Go.Proofs.YtkdoiehdifpihaaGreat.Ws
open Go Go.Eng Go.RowKit
theorem segSall (val : Nat → Value) (hi : ∀ n, isOneV (val n) = true) (b : Nat → Nat) (k : Nat) (ok : ∀ r ∈ tabW b k, r.good val) : ∀ i : Nat, i < 64 → (letI : SymV := ⟨val, hi⟩; letI : SymT := ⟨tabW b k, ok⟩; segRun (callFF Tryz.prog ⟨304, 306, 1000000⟩ (fun _ => none) 100000 50 (segS i).g (segS i).args (mem (segS i).n (segS i).pre)) (segS i) = true)
  | 0, _ => segS0run val hi b k ok
  | 1, _ => segS1run val hi b k ok
  | 2, _ => segS2run val hi b k ok
  | 3, _ => segS3run val hi b k ok
  | 4, _ => segS4run val hi b k ok
  | 5, _ => segS5run val hi b k ok
  | 6, _ => segS6run val hi b k ok
  | 7, _ => segS7run val hi b k ok
  | 8, _ => segS8run val hi b k ok
  | 9, _ => segS9run val hi b k ok
  | 10, _ => segS10run val hi b k ok
  | 11, _ => segS11run val hi b k ok
  | 12, _ => segS12run val hi b k ok
  | 13, _ => segS13run val hi b k ok
  | 14, _ => segS14run val hi b k ok
  | 15, _ => segS15run val hi b k ok
  | 16, _ => segS16run val hi b k ok
  | 17, _ => segS17run val hi b k ok
  | 18, _ => segS18run val hi b k ok
  | 19, _ => segS19run val hi b k ok
  | 20, _ => segS20run val hi b k ok
  | 21, _ => segS21run val hi b k ok
  | 22, _ => segS22run val hi b k ok
  | 23, _ => segS23run val hi b k ok
  | 24, _ => segS24run val hi b k ok
  | 25, _ => segS25run val hi b k ok
  | 26, _ => segS26run val hi b k ok
  | 27, _ => segS27run val hi b k ok
  | 28, _ => segS28run val hi b k ok
  | 29, _ => segS29run val hi b k ok
  | 30, _ => segS30run val hi b k ok
  | 31, _ => segS31run val hi b k ok
  | 32, _ => segS32run val hi b k ok
  | 33, _ => segS33run val hi b k ok
  | 34, _ => segS34run val hi b k ok
  | 35, _ => segS35run val hi b k ok
  | 36, _ => segS36run val hi b k ok
  | 37, _ => segS37run val hi b k ok
  | 38, _ => segS38run val hi b k ok
  | 39, _ => segS39run val hi b k ok
  | 40, _ => segS40run val hi b k ok
  | 41, _ => segS41run val hi b k ok
  | 42, _ => segS42run val hi b k ok
  | 43, _ => segS43run val hi b k ok
  | 44, _ => segS44run val hi b k ok
  | 45, _ => segS45run val hi b k ok
  | 46, _ => segS46run val hi b k ok
  | 47, _ => segS47run val hi b k ok
  | 48, _ => segS48run val hi b k ok
  | 49, _ => segS49run val hi b k ok
  | 50, _ => segS50run val hi b k ok
  | 51, _ => segS51run val hi b k ok
  | 52, _ => segS52run val hi b k ok
  | 53, _ => segS53run val hi b k ok
  | 54, _ => segS54run val hi b k ok
  | 55, _ => segS55run val hi b k ok
  | 56, _ => segS56run val hi b k ok
  | 57, _ => segS57run val hi b k ok
  | 58, _ => segS58run val hi b k ok
  | 59, _ => segS59run val hi b k ok
  | 60, _ => segS60run val hi b k ok
  | 61, _ => segS61run val hi b k ok
  | 62, _ => segS62run val hi b k ok
  | 63, _ => segS63run val hi b k ok
  | n + 64, h => absurd h (by omega)

def puts : List Seg := segH0 :: segH1 :: (List.range 64).map segS
theorem putsGood (val : Nat → Value) (hi : ∀ n, isOneV (val n) = true) (b : Nat → Nat) (k : Nat) (ok : ∀ r ∈ tabW b k, r.good val) : letI : SymV := ⟨val, hi⟩; letI : SymT := ⟨tabW b k, ok⟩; ∀ s ∈ puts, SegGood Tryz.prog s := by
  letI S : SymV := ⟨val, hi⟩
  letI TT : SymT := ⟨tabW b k, ok⟩
  have hc : CallSound Tryz.prog (callFF Tryz.prog ⟨304, 306, 1000000⟩ (fun _ => none) 100000 50) := ffSound (noPrim _) 100000 50
  intro s hs
  rcases List.mem_cons.1 hs with rfl | hs
  · exact segGoodM hc segH0ok (segH0run val hi b k ok)
  · rcases List.mem_cons.1 hs with rfl | hs
    · exact segGoodM hc segH1ok (segH1run val hi b k ok)
    · obtain ⟨i, hi2, rfl⟩ := List.mem_map.1 hs
      have hlt := List.mem_range.1 hi2
      exact segGoodM hc (segOK_at (by omega)).2.2 (segSall val hi b k ok i hlt)
end Go.Proofs.YtkdoiehdifpihaaGreat.Ws
