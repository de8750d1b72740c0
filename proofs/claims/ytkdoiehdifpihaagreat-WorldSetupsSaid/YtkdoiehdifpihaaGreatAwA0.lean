/- awake's run: answers of calls, run one by one. -/
import Derived.Test.YtkdoiehdifpihaaGreatAwB
namespace Go.Proofs.YtkdoiehdifpihaaGreat.Aw
open Go Go.Eng
def t0 : MT := (.n (.n (.n (.n (.n (.n (.n .e 24 24
 []
 (.agg ⟨[(iv 0), (.bool false), (iv 0), (.bool false), (iv 67108864), (.bool false), (iv 3), (iv 4)]⟩) .e) 34 34
 []
 (.agg ⟨[(iv 4294967296), (.bool false)]⟩) .e) 9075798084265099395072 123
 [(iv 0)]
 (.agg ⟨[(.bool false), (.int .u64 (.ofNat 0)), (.int .u64 (.ofNat 0))]⟩) (.n (.n .e 9075798084265099395076 123
 [(iv 1)]
 (.agg ⟨[(.bool false), (.int .u64 (.ofNat 1)), (.int .u64 (.ofNat 0))]⟩) .e) 9075798084265099395104 123
 [(iv 8)]
 (.agg ⟨[(.bool false), (.int .u64 (.ofNat 8)), (.int .u64 (.ofNat 0))]⟩) .e)) 9075798084265099395136 123
 [(iv 16)]
 (.agg ⟨[(.bool false), (.int .u64 (.ofNat 16)), (.int .u64 (.ofNat 0))]⟩) (.n (.n (.n .e 9075798084265099396093 123
 [(nv 255)]
 (.agg ⟨[(.bool true), (.int .u64 (.ofNat 256)), (.int .u64 (.ofNat 0))]⟩) .e) 9075798084265099396096 123
 [(iv 256)]
 (.agg ⟨[(.bool false), (.int .u64 (.ofNat 256)), (.int .u64 (.ofNat 0))]⟩) .e) 9075798084265099399168 123
 [(iv 1024)]
 (.agg ⟨[(.bool false), (.int .u64 (.ofNat 1024)), (.int .u64 (.ofNat 0))]⟩) (.n (.n .e 9075798084265099411456 123
 [(iv 4096)]
 (.agg ⟨[(.bool false), (.int .u64 (.ofNat 4096)), (.int .u64 (.ofNat 0))]⟩) .e) 9075798084265367830528 123
 [(iv 67108864)]
 (.agg ⟨[(.bool false), (.int .u64 (.ofNat 67108864)), (.int .u64 (.ofNat 0))]⟩) .e))) 9075798084270567917276 123
 [(iv 1367130551)]
 (.agg ⟨[(.bool false), (.int .u64 (.ofNat 1367130551)), (.int .u64 (.ofNat 0))]⟩) (.n (.n (.n (.n .e 9075798084276036439480 123
 [(iv 2734261102)]
 (.agg ⟨[(.bool false), (.int .u64 (.ofNat 2734261102)), (.int .u64 (.ofNat 0))]⟩) .e) 9075798084282279264256 123
 [(iv 4294967296)]
 (.agg ⟨[(.bool false), (.int .u64 (.ofNat 4294967296)), (.int .u64 (.ofNat 0))]⟩) .e) 9075798088663145906176 123
 [(iv 1099511627776)]
 (.agg ⟨[(.bool false), (.int .u64 (.ofNat 1099511627776)), (.int .u64 (.ofNat 0))]⟩) (.n (.n .e 15126330140441832325120 205
 [(iv 0)]
 (.bool false) .e) 15126330140441849102336 205
 [(iv 4194304)]
 (.bool false) .e)) 15126330140442100760576 205
 [(iv 67108864)]
 (.bool false) (.n (.n (.n .e 15126330140442906066944 205
 [(iv 268435456)]
 (.bool false) .e) 15126330140443979808768 205
 [(iv 536870912)]
 (.bool false) .e) 15126330144839878836221 205
 [(nv 1099511627775)]
 (.bool false) (.n (.n .e 15126330144839878836224 205
 [(iv 1099511627776)]
 (.bool false) .e) 15126330210810576502784 205
 [(iv 17592186044416)]
 (.bool false) .e)))) 15421478045621185152000 209
 [(iv 256)]
 (.bool true) (.n (.n (.n (.n (.n .e 15937986879685052597248 216
 [(iv 256)]
 (.bool true) .e) 21472010101797918081024 291
 [(.int .u64 (.ofNat 0))]
 (iv 0) .e) 21472010101797918081028 291
 [(.int .u64 (.ofNat 1))]
 (iv 1) (.n (.n .e 23169110556579196829696 314
 [(iv 0)]
 (.int .u64 (.ofNat 0)) .e) 23169110556579196829700 314
 [(iv 1)]
 (.int .u64 (.ofNat 1)) .e)) 23169110556579196830720 314
 [(iv 256)]
 (.int .u64 (.ofNat 256)) (.n (.n (.n .e 23169110556579197091840 314
 [(iv 65536)]
 (.int .u64 (.ofNat 65536)) .e) 23169110556584665351900 314
 [(iv 1367130551)]
 (.int .u64 (.ofNat 1367130551)) .e) 23169110556590133874104 314
 [(iv 2734261102)]
 (.int .u64 (.ofNat 2734261102)) (.n (.n .e 23169110556596376698880 314
 [(iv 4294967296)]
 (.int .u64 (.ofNat 4294967296)) .e) 23169110556613556568064 314
 [(iv 8589934592)]
 (.int .u64 (.ofNat 8589934592)) .e))) 23169110556633168980512 314
 [(iv 13493037704)]
 (.int .u64 (.ofNat 13493037704)) (.n (.n (.n (.n .e 23169110560977243340800 314
 [(iv 1099511627776)]
 (.int .u64 (.ofNat 1099511627776)) .e) 36008044431881044754433 122
 [(.agg ⟨[(iv 0), (.bool false)]⟩)]
 (.agg ⟨[(iv 0), (.bool false)]⟩) .e) 36008044431881111863297 122
 [(.agg ⟨[(iv 4194304), (.bool false)]⟩)]
 (.agg ⟨[(iv 4194304), (.bool false)]⟩) (.n (.n .e 36008044431882118496257 122
 [(.agg ⟨[(iv 67108864), (.bool false)]⟩)]
 (.agg ⟨[(iv 67108864), (.bool false)]⟩) .e) 36008044431885339721729 122
 [(.agg ⟨[(iv 268435456), (.bool false)]⟩)]
 (.agg ⟨[(iv 268435456), (.bool false)]⟩) .e)) 36008044431889634689025 122
 [(.agg ⟨[(iv 536870912), (.bool false)]⟩)]
 (.agg ⟨[(iv 536870912), (.bool false)]⟩) (.n (.n (.n .e 36008044431902918843249 122
 [(.agg ⟨[(iv 1367130551), (.bool false)]⟩)]
 (.agg ⟨[(iv 1367130551), (.bool false)]⟩) .e) 36008044431924792932065 122
 [(.agg ⟨[(iv 2734261102), (.bool false)]⟩)]
 (.agg ⟨[(iv 2734261102), (.bool false)]⟩) .e) 36008044431949764231169 122
 [(.agg ⟨[(iv 4294967296), (.bool false)]⟩)]
 (.agg ⟨[(iv 4294967296), (.bool false)]⟩) (.n (.n .e 36008044449473230798837 122
 [(.agg ⟨[(nv 1099511627775), (.bool false)]⟩)]
 (.agg ⟨[(nv 1099511627775), (.bool false)]⟩) .e) 36008044449473230798849 122
 [(.agg ⟨[(iv 1099511627776), (.bool false)]⟩)]
 (.agg ⟨[(iv 1099511627776), (.bool false)]⟩) .e))))) 36008044713356021465089 122
 [(.agg ⟨[(iv 17592186044416), (.bool false)]⟩)]
 (.agg ⟨[(iv 17592186044416), (.bool false)]⟩) (.n (.n (.n (.n (.n (.n .e 86478336217550377975809 293
 [(.agg ⟨[(iv 0), (.bool false)]⟩)]
 (.tuple ⟨[(iv 0), (.bool false)]⟩) .e) 86478336217572252064625 293
 [(.agg ⟨[(iv 1367130551), (.bool false)]⟩)]
 (.tuple ⟨[(iv 1367130551), (.bool false)]⟩) .e) 86478336217594126153441 293
 [(.agg ⟨[(iv 2734261102), (.bool false)]⟩)]
 (.tuple ⟨[(iv 2734261102), (.bool false)]⟩) (.n (.n .e 86478336217619097452545 293
 [(.agg ⟨[(iv 4294967296), (.bool false)]⟩)]
 (.tuple ⟨[(iv 4294967296), (.bool false)]⟩) .e) 86478336217687816929281 293
 [(.agg ⟨[(iv 8589934592), (.bool false)]⟩)]
 (.tuple ⟨[(iv 8589934592), (.bool false)]⟩) .e)) 86478336217766266579073 293
 [(.agg ⟨[(iv 13493037704), (.bool false)]⟩)]
 (.tuple ⟨[(iv 13493037704), (.bool false)]⟩) (.n (.n (.n .e 86478336235142564020225 293
 [(.agg ⟨[(iv 1099511627776), (.bool false)]⟩)]
 (.tuple ⟨[(iv 1099511627776), (.bool false)]⟩) .e) 2188696184035476196996425475001133136084992 402
 [(.int .u64 (.ofNat 0)), (.int .u64 (.ofNat 0))]
 (.tuple ⟨[(.int .u64 (.ofNat 0)), (.int .u64 (.ofNat 0))]⟩) .e) 2188696184035476196996425475001133404520448 402
 [(.int .u64 (.ofNat 0)), (.int .u64 (.ofNat 67108864))]
 (.tuple ⟨[(.int .u64 (.ofNat 0)), (.int .u64 (.ofNat 0))]⟩) (.n (.n .e 2188696184035476196996425475005531182596096 402
 [(.int .u64 (.ofNat 0)), (.int .u64 (.ofNat 1099511627776))]
 (.tuple ⟨[(.int .u64 (.ofNat 0)), (.int .u64 (.ofNat 0))]⟩) .e) 2188696184036743847596653704402647019159552 402
 [(.int .u64 (.ofNat 4294967296)), (.int .u64 (.ofNat 4294967296))]
 (.tuple ⟨[(.int .u64 (.ofNat 1)), (.int .u64 (.ofNat 0))]⟩) .e))) 2705925381755302661461050026202600170323968 124
 [(.agg ⟨[(.bool false), (.int .u64 (.ofNat 1)), (.int .u64 (.ofNat 0))]⟩)]
 (.agg ⟨[(.bool false), (.int .u64 (.ofNat 4294967296)), (.int .u64 (.ofNat 0))]⟩) (.n (.n (.n (.n .e 2705925381755302661536312742023335140917248 124
 [(.agg ⟨[(.bool false), (.int .u64 (.ofNat 256)), (.int .u64 (.ofNat 0))]⟩)]
 (.agg ⟨[(.bool false), (.int .u64 (.ofNat 1099511627776)), (.int .u64 (.ofNat 0))]⟩) .e) 2705925381755302662669680697912049992204288 124
 [(.agg ⟨[(.bool false), (.int .u64 (.ofNat 4096)), (.int .u64 (.ofNat 0))]⟩)]
 (.agg ⟨[(.bool false), (.int .u64 (.ofNat 17592186044416)), (.int .u64 (.ofNat 0))]⟩) .e) 2711369899626037676951726735742243432300544 124
 [(.agg ⟨[(.bool true), (.int .u64 (.ofNat 256)), (.int .u64 (.ofNat 0))]⟩)]
 (.agg ⟨[(.bool true), (.int .u64 (.ofNat 1099511627776)), (.int .u64 (.ofNat 0))]⟩) (.n (.n .e 6582422105718633637235518406160124282404864 302
 [(.agg ⟨[(.bool false), (.int .u64 (.ofNat 0)), (.int .u64 (.ofNat 0))]⟩)]
 (.agg ⟨[(.bool false), (.int .u64 (.ofNat 0)), (.int .u64 (.ofNat 0))]⟩) .e) 6582422105718633637235518406160124282404868 302
 [(.agg ⟨[(.bool false), (.int .u64 (.ofNat 0)), (.int .u64 (.ofNat 1))]⟩)]
 (.agg ⟨[(.bool false), (.int .u64 (.ofNat 4294967296)), (.int .u64 (.ofNat 0))]⟩) .e)) 6756646677582154130528766205165189606670340 310
 [(.agg ⟨[(.bool false), (.int .u64 (.ofNat 0)), (.int .u64 (.ofNat 1))]⟩)]
 (.agg ⟨[(.bool false), (.int .u64 (.ofNat 0)), (.int .u64 (.ofNat 4294967296))]⟩) (.n (.n (.n .e 6756646677582154130528766205165189606671360 310
 [(.agg ⟨[(.bool false), (.int .u64 (.ofNat 0)), (.int .u64 (.ofNat 256))]⟩)]
 (.agg ⟨[(.bool false), (.int .u64 (.ofNat 0)), (.int .u64 (.ofNat 1099511627776))]⟩) .e) 6756646677582154130528766205165189606932480 310
 [(.agg ⟨[(.bool false), (.int .u64 (.ofNat 0)), (.int .u64 (.ofNat 65536))]⟩)]
 (.agg ⟨[(.bool false), (.int .u64 (.ofNat 0)), (.int .u64 (.ofNat 281474976710656))]⟩) .e) 6756646677582154130528766205165195075192540 310
 [(.agg ⟨[(.bool false), (.int .u64 (.ofNat 0)), (.int .u64 (.ofNat 1367130551))]⟩)]
 (.agg ⟨[(.bool false), (.int .u64 (.ofNat 0)), (.int .u64 (.ofNat 5871781005907460096))]⟩) (.n (.n .e 6756646677582154130528766205165200543714744 310
 [(.agg ⟨[(.bool false), (.int .u64 (.ofNat 0)), (.int .u64 (.ofNat 2734261102))]⟩)]
 (.agg ⟨[(.bool false), (.int .u64 (.ofNat 0)), (.int .u64 (.ofNat 11743562011814920192))]⟩) .e) 6756646677582154130528766205165206786539520 310
 [(.agg ⟨[(.bool false), (.int .u64 (.ofNat 0)), (.int .u64 (.ofNat 4294967296))]⟩)]
 (.agg ⟨[(.bool false), (.int .u64 (.ofNat 1)), (.int .u64 (.ofNat 0))]⟩) .e)))) 6756646677582154130528766205165223966408704 310
 [(.agg ⟨[(.bool false), (.int .u64 (.ofNat 0)), (.int .u64 (.ofNat 8589934592))]⟩)]
 (.agg ⟨[(.bool false), (.int .u64 (.ofNat 2)), (.int .u64 (.ofNat 0))]⟩) (.n (.n (.n (.n (.n .e 8803785396978519926724427843474707166789632 404
 [(.agg ⟨[(.bool false), (.int .u64 (.ofNat 0)), (.int .u64 (.ofNat 0))]⟩)]
 (.agg ⟨[(.bool false), (.int .u64 (.ofNat 0)), (.int .u64 (.ofNat 0))]⟩) .e) 8803785396978519926724722991379886519615488 404
 [(.agg ⟨[(.bool false), (.int .u64 (.ofNat 1)), (.int .u64 (.ofNat 0))]⟩)]
 (.agg ⟨[(.bool false), (.int .u64 (.ofNat 0)), (.int .u64 (.ofNat 4294967296))]⟩) .e) 10997926098884731139136267312194748594257921 126
 [(.agg ⟨[(.bool false), (.int .u64 (.ofNat 0)), (.int .u64 (.ofNat 0))]⟩), (.bool false)]
 (.agg ⟨[(iv 0), (.bool false)]⟩) (.n (.n .e 10997926098884736090896424453715848190754817 126
 [(.agg ⟨[(.bool false), (.int .u64 (.ofNat 4194304)), (.int .u64 (.ofNat 0))]⟩), (.bool false)]
 (.agg ⟨[(iv 4194304), (.bool false)]⟩) .e) 10997926098885048051786324369545122770059265 126
 [(.agg ⟨[(.bool false), (.int .u64 (.ofNat 268435456)), (.int .u64 (.ofNat 0))]⟩), (.bool false)]
 (.agg ⟨[(iv 268435456), (.bool false)]⟩) .e)) 10997926098885364964436381426895496945860609 126
 [(.agg ⟨[(.bool false), (.int .u64 (.ofNat 536870912)), (.int .u64 (.ofNat 0))]⟩), (.bool false)]
 (.agg ⟨[(iv 536870912), (.bool false)]⟩) (.n (.n (.n .e 10997926098889573207755079444786379638177793 126
 [(.agg ⟨[(.bool false), (.int .u64 (.ofNat 4101391653)), (.int .u64 (.ofNat 0))]⟩), (.bool false)]
 (.agg ⟨[(iv 4101391653), (.bool false)]⟩) .e) 10997926098889801741537180229800735407079425 126
 [(.agg ⟨[(.bool false), (.int .u64 (.ofNat 4294967296)), (.int .u64 (.ofNat 0))]⟩), (.bool false)]
 (.agg ⟨[(iv 4294967296), (.bool false)]⟩) .e) 10997926100182805353769974219327372676562945 126
 [(.agg ⟨[(.bool false), (.int .u64 (.ofNat 1099511627776)), (.int .u64 (.ofNat 0))]⟩), (.bool false)]
 (.agg ⟨[(iv 1099511627776), (.bool false)]⟩) (.n (.n .e 10997926119653918573275577826316733911138305 126
 [(.agg ⟨[(.bool false), (.int .u64 (.ofNat 17592186044416)), (.int .u64 (.ofNat 0))]⟩), (.bool false)]
 (.agg ⟨[(iv 17592186044416), (.bool false)]⟩) .e) 11019704171665745415431630194203005842096129 126
 [(.agg ⟨[(.bool true), (.int .u64 (.ofNat 1099511627776)), (.int .u64 (.ofNat 0))]⟩), (.bool false)]
 (.agg ⟨[(nv 1099511627775), (.bool false)]⟩) .e))) 26939474424396856275468440921158225764548609 309
 [(.agg ⟨[(.bool false), (.int .u64 (.ofNat 0)), (.int .u64 (.ofNat 0))]⟩), (.bool false)]
 (.agg ⟨[(iv 0), (.bool false)]⟩) (.n (.n (.n (.n .e 26939474424396856275468440921158247638637425 309
 [(.agg ⟨[(.bool false), (.int .u64 (.ofNat 0)), (.int .u64 (.ofNat 1367130551))]⟩), (.bool false)]
 (.agg ⟨[(iv 1367130551), (.bool false)]⟩) .e) 26939474424396856275468440921158269512726241 309
 [(.agg ⟨[(.bool false), (.int .u64 (.ofNat 0)), (.int .u64 (.ofNat 2734261102))]⟩), (.bool false)]
 (.agg ⟨[(iv 2734261102), (.bool false)]⟩) .e) 26939474424396856275468440921158294484025345 309
 [(.agg ⟨[(.bool false), (.int .u64 (.ofNat 0)), (.int .u64 (.ofNat 4294967296))]⟩), (.bool false)]
 (.agg ⟨[(iv 4294967296), (.bool false)]⟩) (.n (.n .e 26939474424396856275468440921158363203502081 309
 [(.agg ⟨[(.bool false), (.int .u64 (.ofNat 0)), (.int .u64 (.ofNat 8589934592))]⟩), (.bool false)]
 (.agg ⟨[(iv 8589934592), (.bool false)]⟩) .e) 26939474424396856275468440921175817950593025 309
 [(.agg ⟨[(.bool false), (.int .u64 (.ofNat 0)), (.int .u64 (.ofNat 1099511627776))]⟩), (.bool false)]
 (.agg ⟨[(iv 1099511627776), (.bool false)]⟩) .e)) 50216813883093446110686315385662598979419071785113772806373408 125
 [(.int .u64 (.ofNat 0)), (.int .u64 (.ofNat 4294967296)), (.int .u64 (.ofNat 8))]
 (.tuple ⟨[(.int .u64 (.ofNat 536870912)), (.int .u64 (.ofNat 0))]⟩) (.n (.n (.n .e 50216813883093446110686315385662598979419071785113772806373440 125
 [(.int .u64 (.ofNat 0)), (.int .u64 (.ofNat 4294967296)), (.int .u64 (.ofNat 16))]
 (.tuple ⟨[(.int .u64 (.ofNat 268435456)), (.int .u64 (.ofNat 0))]⟩) .e) 50216813883093446110686315385662598979419071785113772806377472 125
 [(.int .u64 (.ofNat 0)), (.int .u64 (.ofNat 4294967296)), (.int .u64 (.ofNat 1024))]
 (.tuple ⟨[(.int .u64 (.ofNat 4194304)), (.int .u64 (.ofNat 0))]⟩) .e) 102844034832575377634685573909834406561420991602098741459289088 256
 [(.agg ⟨[(iv 0), (iv 0)]⟩), (iv 256)]
 (.agg ⟨[(nv 255), (nv 255), (iv 256), (iv 256)]⟩) (.n .e 503373342364128703813519625508945934976637329858947796925939712 313
 [(.agg ⟨[(.bool false), (.int .u64 (.ofNat 0)), (.int .u64 (.ofNat 281474976710656))]⟩), (.int .u64 (.ofNat 65536))]
 (.agg ⟨[(.bool false), (.int .u64 (.ofNat 0)), (.int .u64 (.ofNat 4294967296))]⟩) .e))))))
theorem t0ok : t0.good (fun g args => callM Tryz.prog ⟨304, 306, 1000000⟩ (prims) [] km kr 100000 100 g args m0) = true := by kernel_rfl
theorem t0k : MTK Tryz.prog t0 := good_ok (callM_sound pok primsOK memoNil km kr 100000 100) t0ok
def t1 : MT := (.n (.n .e 503373342364128703813521358469732750740067510390537721995067392 313
 [(.agg ⟨[(.bool false), (.int .u64 (.ofNat 0)), (.int .u64 (.ofNat 5871781005907460096))]⟩), (.int .u64 (.ofNat 4294967296))]
 (.agg ⟨[(.bool false), (.int .u64 (.ofNat 0)), (.int .u64 (.ofNat 1367130551))]⟩) .e) 503373342364128703813523091513596316240054932978615571152109568 313
 [(.agg ⟨[(.bool false), (.int .u64 (.ofNat 0)), (.int .u64 (.ofNat 11743562011814920192))]⟩), (.int .u64 (.ofNat 4294967296))]
 (.agg ⟨[(.bool false), (.int .u64 (.ofNat 0)), (.int .u64 (.ofNat 2734261102))]⟩) .e)
theorem t1ok : t1.good (fun g args => callM Tryz.prog ⟨304, 306, 1000000⟩ (prims) [] km kr 100000 100 g args m0) = true := by kernel_rfl
theorem t1k : MTK Tryz.prog t1 := good_ok (callM_sound pok primsOK memoNil km kr 100000 100) t1ok
end Go.Proofs.YtkdoiehdifpihaaGreat.Aw
