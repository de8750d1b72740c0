/- WorldKnown's run: answers of calls, run one by one. -/
import Derived.Test.YtkdoiehdifpihaaGreatWkB
namespace Go.Proofs.YtkdoiehdifpihaaGreat.Wk
open Go Go.Eng
def t6 : MT := (.n .e 503373342364128703813541403497352125301741743777335542795840032 313
 [(.agg ⟨[(.bool false), (.int .u64 (.ofNat 1)), (.int .u64 (.ofNat 0))]⟩), (.int .u64 (.ofNat 13493037704))]
 (.agg ⟨[(.bool false), (.int .u64 (.ofNat 0)), (.int .u64 (.ofNat 1367130551))]⟩) .e)
theorem t6ok : t6.good (fun g args => callM Tryz.prog ⟨304, 306, 1000000⟩ (prims) [] km kr 100000 100 g args m0) = true := by kernel_rfl
theorem t6k : MTK Tryz.prog t6 := good_ok (callM_sound pok primsOK memoNil km kr 100000 100) t6ok
def t7 : MT := (.n .e 503373342364128703813563181568835065363403399752211139169091584 313
 [(.agg ⟨[(.bool false), (.int .u64 (.ofNat 2)), (.int .u64 (.ofNat 0))]⟩), (.int .u64 (.ofNat 4294967296))]
 (.agg ⟨[(.bool false), (.int .u64 (.ofNat 0)), (.int .u64 (.ofNat 8589934592))]⟩) .e)
theorem t7ok : t7.good (fun g args => callM Tryz.prog ⟨304, 306, 1000000⟩ (prims) [] km kr 100000 100 g args m0) = true := by kernel_rfl
theorem t7k : MTK Tryz.prog t7 := good_ok (callM_sound pok primsOK memoNil km kr 100000 100) t7ok
def t8 : MT := (.n .e 503373342364128703813563181568835065363403399752211175961373216 313
 [(.agg ⟨[(.bool false), (.int .u64 (.ofNat 2)), (.int .u64 (.ofNat 0))]⟩), (.int .u64 (.ofNat 13493037704))]
 (.agg ⟨[(.bool false), (.int .u64 (.ofNat 0)), (.int .u64 (.ofNat 2734261102))]⟩) .e)
theorem t8ok : t8.good (fun g args => callM Tryz.prog ⟨304, 306, 1000000⟩ (prims) [] km kr 100000 100 g args m0) = true := by kernel_rfl
theorem t8k : MTK Tryz.prog t8 := good_ok (callM_sound pok primsOK memoNil km kr 100000 100) t8ok
end Go.Proofs.YtkdoiehdifpihaaGreat.Wk
