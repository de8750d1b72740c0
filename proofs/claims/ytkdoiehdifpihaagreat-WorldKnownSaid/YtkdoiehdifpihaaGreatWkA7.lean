/- WorldKnown's run: answers of calls, run one by one. -/
import Derived.Test.YtkdoiehdifpihaaGreatWkA6
namespace Go.Proofs.YtkdoiehdifpihaaGreat.Wk
open Go Go.Eng
def us19 : List MT := [t0, t1, t2, t3, t4, t5, t6, t7, t8, t9, t10, t11, t12, t13, t14, t15, t16, t17, t18]
theorem us19k : MemoOK Tryz.prog us19 := (memoCons t0k (memoCons t1k (memoCons t2k (memoCons t3k (memoCons t4k (memoCons t5k (memoCons t6k (memoCons t7k (memoCons t8k (memoCons t9k (memoCons t10k (memoCons t11k (memoCons t12k (memoCons t13k (memoCons t14k (memoCons t15k (memoCons t16k (memoCons t17k (memoCons t18k memoNil)))))))))))))))))))
def t19 : MT := (.n (.n (.n .e 23 23
 []
 (.bool true) .e) 10641756169266307624619243945568754993891242152650000679513453254503531236965745661 359
 [(.agg ⟨[(iv 256), (iv 256)]⟩), (.agg ⟨[(iv 256), (nv 255)]⟩)]
 (.agg ⟨[(nv 4294967295), (.bool false), (iv 0), (.bool false)]⟩) .e) 5739909367570145628074378451386665952189728945787491206032263228268477381505591459074100571981892594554755005348294479740915837931787837767680 482
 [(.agg ⟨[(iv 0), (iv 0), (iv 256)]⟩), (.agg ⟨[(nv 599), (iv 0)]⟩), (.agg ⟨[(iv 600), (iv 0)]⟩)]
 (.agg ⟨[(.bool true), (iv 1231223958), (.bool false), (nv 4294967295), (.bool false), (iv 0), (.bool false)]⟩) (.n .e 24051167917591531187413058341633241063209952515903662522541144330846935741979145192635925918013861454071838362239705078286628813078351050720179396843354185622536555984087390227742097243639497698925960523975212439618424234571149566627360696490843479384319046202196454720116067899196761591476867572561174593540 137
 [(.agg ⟨[(iv 2), (iv 0), (iv 256), (iv 256), (.slice none 0 0), (iv 8589934592), (.bool false), (iv 0), (.bool false), (iv 4294967296), (.bool false), (iv 0), (.bool false), (iv 0), (.bool false), (iv 0), (.bool false), (iv 0), (.bool false), (iv 0), (.bool false), (iv 0), (.bool false), (iv 0), (.bool false), (.bool false), (iv 1)]⟩)]
 (.agg ⟨[(iv 256), (nv 255), (iv 768), (iv 256)]⟩) .e))
theorem t19ok : t19.good (fun g args => callM Tryz.prog ⟨304, 306, 1000000⟩ (prims) us19 km kr 100000 100 g args m0) = true := by kernel_rfl
theorem t19k : MTK Tryz.prog t19 := good_ok (callM_sound pok primsOK us19k km kr 100000 100) t19ok
def us20 : List MT := [t0, t1, t2, t3, t4, t5, t6, t7, t8, t9, t10, t11, t12, t13, t14, t15, t16, t17, t18, t19]
theorem us20k : MemoOK Tryz.prog us20 := (memoCons t0k (memoCons t1k (memoCons t2k (memoCons t3k (memoCons t4k (memoCons t5k (memoCons t6k (memoCons t7k (memoCons t8k (memoCons t9k (memoCons t10k (memoCons t11k (memoCons t12k (memoCons t13k (memoCons t14k (memoCons t15k (memoCons t16k (memoCons t17k (memoCons t18k (memoCons t19k memoNil))))))))))))))))))))
def t20 : MT := (.n .e 622115423151676374810710314426493926494541466580481902481617457486086681757823734540062943023172627690104237929143771115146076388323995152005183201504669638590464 177
 [(.agg ⟨[(iv 1), (iv 0), (iv 0), (iv 256), (.slice none 0 0)]⟩), (.agg ⟨[(nv 599), (iv 0)]⟩), (.agg ⟨[(iv 600), (iv 0)]⟩)]
 (.agg ⟨[(.bool true), (iv 1231223958), (.bool false), (nv 4294967295), (.bool false), (iv 0), (.bool false)]⟩) .e)
theorem t20ok : t20.good (fun g args => callM Tryz.prog ⟨304, 306, 1000000⟩ (prims) us20 km kr 100000 100 g args m0) = true := by kernel_rfl
theorem t20k : MTK Tryz.prog t20 := good_ok (callM_sound pok primsOK us20k km kr 100000 100) t20ok
end Go.Proofs.YtkdoiehdifpihaaGreat.Wk
