/- What both CheckSetup's answer, for every setup. -/
import Derived.Test.YtogdmfknfkcjdaaGreatPCkP0
import Derived.Test.YtogdmfknfkcjdaaGreatPCkP1
import Derived.Test.YtogdmfknfkcjdaaGreatPCkP2
import Derived.Test.YtogdmfknfkcjdaaGreatPCkP3
import Derived.Test.YtogdmfknfkcjdaaGreatPCkR0
namespace Go.Proofs.YtogdmfknfkcjdaaGreat
open Go Go.Eng Go.RowKit
theorem ckP (x y d m r : Int) (fx fy fd : Bool) (hx : -9223372036854775808 ≤ x ∧ x ≤ 9223372036854775807) (hy : -9223372036854775808 ≤ y ∧ y ≤ 9223372036854775807) (w : World) :
    Calls Tryz.prog 101 ⟨[.agg ⟨[.int .i64 x, .bool fx, .int .i64 y, .bool fy, .int .i64 d, .bool fd, .int .i64 m, .int .i64 r]⟩]⟩ w fun e w' => e = .returned (.int .i64 (ckS x fx y fy d fd m r)) ∧ Below w.heap.size w w' := by
  cases fd with
  | true => exact Ckp0.c00001_all x y d m r fx fy w
  | false =>
    by_cases ex : x = (-9223372036854775808)
    · subst ex
      by_cases ey : y = (-9223372036854775808)
      · subst ey
        cases fx <;> cases fy
        · exact Ckp3.c11000_all 0 0 d m r (by omega) (by omega) w
        · exact Ckp3.c11010_all 0 0 d m r (by omega) (by omega) w
        · exact Ckp3.c11100_all 0 0 d m r (by omega) (by omega) w
        · exact Ckp3.c11110_all 0 0 d m r (by omega) (by omega) w
      · cases fx <;> cases fy
        · exact Ckp2.c10000_all 0 y d m r (by omega) (by omega) w
        · exact Ckp2.c10010_all 0 y d m r (by omega) (by omega) w
        · exact Ckp2.c10100_all 0 y d m r (by omega) (by omega) w
        · exact Ckp2.c10110_all 0 y d m r (by omega) (by omega) w
    · by_cases ey : y = (-9223372036854775808)
      · subst ey
        cases fx <;> cases fy
        · exact Ckp2.c01000_all x 0 d m r (by omega) (by omega) w
        · exact Ckp2.c01010_all x 0 d m r (by omega) (by omega) w
        · exact Ckp2.c01100_all x 0 d m r (by omega) (by omega) w
        · exact Ckp2.c01110_all x 0 d m r (by omega) (by omega) w
      · cases fx <;> cases fy
        · exact Ckp0.c00000_all x y d m r (by omega) (by omega) w
        · exact Ckp1.c00010_all x y d m r (by omega) (by omega) w
        · exact Ckp1.c00100_all x y d m r (by omega) (by omega) w
        · exact Ckp1.c00110_all x y d m r (by omega) (by omega) w
theorem ckR (x y d m r : Int) (fx fy fd : Bool) (w : World) :
    Calls Tryz.prog 102 ⟨[.agg ⟨[.int .i64 x, .bool fx, .int .i64 y, .bool fy, .int .i64 d, .bool fd, .int .i64 m, .int .i64 r]⟩]⟩ w fun e w' => e = .returned (.int .i64 (ckS x fx y fy d fd m r)) ∧ Below w.heap.size w w' := by
  cases fd <;> cases fx <;> cases fy
  · exact Ckr0.c00000_all x y d m r w
  · exact Ckr0.c00010_all x y d m r w
  · exact Ckr0.c00100_all x y d m r w
  · exact Ckr0.c00110_all x y d m r w
  · exact Ckr0.c00001_all x y d m r w
  · exact Ckr0.c00011_all x y d m r w
  · exact Ckr0.c00101_all x y d m r w
  · exact Ckr0.c00111_all x y d m r w
end Go.Proofs.YtogdmfknfkcjdaaGreat
