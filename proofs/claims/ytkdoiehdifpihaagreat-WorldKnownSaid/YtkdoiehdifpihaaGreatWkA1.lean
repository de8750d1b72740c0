/- WorldKnown's run: answers of calls, run one by one. -/
import Derived.Test.YtkdoiehdifpihaaGreatWkB
namespace Go.Proofs.YtkdoiehdifpihaaGreat.Wk
open Go Go.Eng
def t3 : MT := (.n .e 503373342364128703813519625508945934976637329858947796925939712 313
 [(.agg ⟨[(.bool false), (.int .u64 (.ofNat 0)), (.int .u64 (.ofNat 281474976710656))]⟩), (.int .u64 (.ofNat 65536))]
 (.agg ⟨[(.bool false), (.int .u64 (.ofNat 0)), (.int .u64 (.ofNat 4294967296))]⟩) .e)
theorem t3ok : t3.good (fun g args => callM Tryz.prog ⟨304, 306, 1000000⟩ (prims) [] km kr 100000 100 g args m0) = true := by kernel_rfl
theorem t3k : MTK Tryz.prog t3 := good_ok (callM_sound pok primsOK memoNil km kr 100000 100) t3ok
def t4 : MT := (.n .e 503373342364128703813521358469732750740067510390537721995067392 313
 [(.agg ⟨[(.bool false), (.int .u64 (.ofNat 0)), (.int .u64 (.ofNat 5871781005907460096))]⟩), (.int .u64 (.ofNat 4294967296))]
 (.agg ⟨[(.bool false), (.int .u64 (.ofNat 0)), (.int .u64 (.ofNat 1367130551))]⟩) .e)
theorem t4ok : t4.good (fun g args => callM Tryz.prog ⟨304, 306, 1000000⟩ (prims) [] km kr 100000 100 g args m0) = true := by kernel_rfl
theorem t4k : MTK Tryz.prog t4 := good_ok (callM_sound pok primsOK memoNil km kr 100000 100) t4ok
def t5 : MT := (.n .e 503373342364128703813523091513596316240054932978615571152109568 313
 [(.agg ⟨[(.bool false), (.int .u64 (.ofNat 0)), (.int .u64 (.ofNat 11743562011814920192))]⟩), (.int .u64 (.ofNat 4294967296))]
 (.agg ⟨[(.bool false), (.int .u64 (.ofNat 0)), (.int .u64 (.ofNat 2734261102))]⟩) .e)
theorem t5ok : t5.good (fun g args => callM Tryz.prog ⟨304, 306, 1000000⟩ (prims) [] km kr 100000 100 g args m0) = true := by kernel_rfl
theorem t5k : MTK Tryz.prog t5 := good_ok (callM_sound pok primsOK memoNil km kr 100000 100) t5ok
end Go.Proofs.YtkdoiehdifpihaaGreat.Wk
