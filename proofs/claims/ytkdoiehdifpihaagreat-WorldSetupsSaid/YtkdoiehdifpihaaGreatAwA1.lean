/- awake's run: answers of calls, run one by one. -/
import Derived.Test.YtkdoiehdifpihaaGreatAwB
namespace Go.Proofs.YtkdoiehdifpihaaGreat.Aw
open Go Go.Eng
def t2 : MT := (.n (.n .e 503373342364128703813541403497352125301741743777335542795840032 313
 [(.agg ⟨[(.bool false), (.int .u64 (.ofNat 1)), (.int .u64 (.ofNat 0))]⟩), (.int .u64 (.ofNat 13493037704))]
 (.agg ⟨[(.bool false), (.int .u64 (.ofNat 0)), (.int .u64 (.ofNat 1367130551))]⟩) .e) 503373342364128703813563181568835065363403399752211139169091584 313
 [(.agg ⟨[(.bool false), (.int .u64 (.ofNat 2)), (.int .u64 (.ofNat 0))]⟩), (.int .u64 (.ofNat 4294967296))]
 (.agg ⟨[(.bool false), (.int .u64 (.ofNat 0)), (.int .u64 (.ofNat 8589934592))]⟩) .e)
theorem t2ok : t2.good (fun g args => callM Tryz.prog ⟨304, 306, 1000000⟩ (prims) [] km kr 100000 100 g args m0) = true := by kernel_rfl
theorem t2k : MTK Tryz.prog t2 := good_ok (callM_sound pok primsOK memoNil km kr 100000 100) t2ok
def t3 : MT := (.n (.n (.n (.n .e 503373342364128703813563181568835065363403399752211175961373216 313
 [(.agg ⟨[(.bool false), (.int .u64 (.ofNat 2)), (.int .u64 (.ofNat 0))]⟩), (.int .u64 (.ofNat 13493037704))]
 (.agg ⟨[(.bool false), (.int .u64 (.ofNat 0)), (.int .u64 (.ofNat 2734261102))]⟩) .e) 4831772299694730203044940998239636286738894596943951661271491625095988224651691008 163
 [(.agg ⟨[(nv 255), (nv 255), (iv 256), (iv 256)]⟩)]
 (iv 0) .e) 16599953913061649775929564163022534430969253595234126534248263773622205798028410883 140
 [(.agg ⟨[(iv 1), (iv 256), (iv 0), (iv 0), (.slice none 0 0)]⟩)]
 (.agg ⟨[(iv 1), (iv 256), (iv 0), (iv 0), (.slice none 0 0)]⟩) (.n (.n .e 101615432167813098985472342172104229918978439347574729237994128496650028260150738944 214
 [(.agg ⟨[(.bool false), (.int .u64 (.ofNat 0)), (.int .u64 (.ofNat 0))]⟩), (.agg ⟨[(.bool false), (.int .u64 (.ofNat 0)), (.int .u64 (.ofNat 0))]⟩)]
 (.agg ⟨[(.bool false), (.int .u64 (.ofNat 0)), (.int .u64 (.ofNat 0))]⟩) .e) 101615432167813098985472342172104229918978439347574729641499846730994410896071065600 214
 [(.agg ⟨[(.bool false), (.int .u64 (.ofNat 0)), (.int .u64 (.ofNat 0))]⟩), (.agg ⟨[(.bool false), (.int .u64 (.ofNat 1367130551)), (.int .u64 (.ofNat 0))]⟩)]
 (.agg ⟨[(.bool false), (.int .u64 (.ofNat 1367130551)), (.int .u64 (.ofNat 0))]⟩) .e)) 101615432167813098985472342172104229918978526459860660998240775120549530792812871680 214
 [(.agg ⟨[(.bool false), (.int .u64 (.ofNat 0)), (.int .u64 (.ofNat 1))]⟩), (.agg ⟨[(.bool false), (.int .u64 (.ofNat 0)), (.int .u64 (.ofNat 0))]⟩)]
 (.agg ⟨[(.bool false), (.int .u64 (.ofNat 0)), (.int .u64 (.ofNat 1))]⟩) (.n (.n (.n .e 101615432167821886561847824795152651216814133293609797138480061441911771221679144960 214
 [(.agg ⟨[(.bool false), (.int .u64 (.ofNat 1367130551)), (.int .u64 (.ofNat 0))]⟩), (.agg ⟨[(.bool false), (.int .u64 (.ofNat 2734261102)), (.int .u64 (.ofNat 0))]⟩)]
 (.agg ⟨[(.bool false), (.int .u64 (.ofNat 4101391653)), (.int .u64 (.ofNat 0))]⟩) .e) 192203752093378102048367172299861092997274266070953305546367216939064754450139709440 405
 [(.agg ⟨[(.bool false), (.int .u64 (.ofNat 0)), (.int .u64 (.ofNat 0))]⟩), (.agg ⟨[(.bool false), (.int .u64 (.ofNat 0)), (.int .u64 (.ofNat 0))]⟩)]
 (.agg ⟨[(.bool false), (.int .u64 (.ofNat 0)), (.int .u64 (.ofNat 0))]⟩) .e) 192203752093378102048367172299861092997274266070953305546367216939064754467319578624 405
 [(.agg ⟨[(.bool false), (.int .u64 (.ofNat 0)), (.int .u64 (.ofNat 0))]⟩), (.agg ⟨[(.bool false), (.int .u64 (.ofNat 0)), (.int .u64 (.ofNat 4294967296))]⟩)]
 (.agg ⟨[(.bool false), (.int .u64 (.ofNat 0)), (.int .u64 (.ofNat 4294967296))]⟩) (.n (.n .e 192203752093378102048373600052038128958376433919322670196777305751039885621480914944 405
 [(.agg ⟨[(.bool false), (.int .u64 (.ofNat 1)), (.int .u64 (.ofNat 0))]⟩), (.agg ⟨[(.bool false), (.int .u64 (.ofNat 0)), (.int .u64 (.ofNat 0))]⟩)]
 (.agg ⟨[(.bool false), (.int .u64 (.ofNat 1)), (.int .u64 (.ofNat 0))]⟩) .e) 15975593288327221445650803271671411206091557364019089429648011092232349188129552524363661143538354392433120902801907212079959536170877228537375403071257526582301124639249112239805699358641402376028427282780579011209804006585244500490533625557350450316788347593133179260488043282764554724267126052185639485444 91
 [(.agg ⟨[(iv 1), (iv 256), (iv 0), (iv 0), (.slice none 0 0), (iv 0), (.bool false), (iv 0), (.bool false), (iv 4294967296), (.bool false), (iv 0), (.bool false), (iv 0), (.bool false), (iv 0), (.bool false), (iv 0), (.bool false), (iv 1367130551), (.bool false), (iv 2734261102), (.bool false), (iv 0), (.bool false), (.bool false), (iv 1)]⟩)]
 (.bool true) .e)))
theorem t3ok : t3.good (fun g args => callM Tryz.prog ⟨304, 306, 1000000⟩ (prims) [] km kr 100000 100 g args m0) = true := by kernel_rfl
theorem t3k : MTK Tryz.prog t3 := good_ok (callM_sound pok primsOK memoNil km kr 100000 100) t3ok
end Go.Proofs.YtkdoiehdifpihaaGreat.Aw
