/- awake's run: answers of calls, run one by one. -/
import Derived.Test.YtkdoiehdifpihaaGreatAwA0
import Derived.Test.YtkdoiehdifpihaaGreatAwA1
namespace Go.Proofs.YtkdoiehdifpihaaGreat.Aw
open Go Go.Eng
def us4 : List MT := [t0, t1, t2, t3]
theorem us4k : MemoOK Tryz.prog us4 := (memoCons t0k (memoCons t1k (memoCons t2k (memoCons t3k memoNil))))
def t4 : MT := (.n (.n (.n (.n (.n (.n .e 17192365476697302106112 233
 [(.int .u64 (.ofNat 0))]
 (iv 0) .e) 17192365476697302106116 233
 [(.int .u64 (.ofNat 1))]
 (iv 1) .e) 22947749627694682210304 311
 [(iv 0)]
 (.agg ⟨[(.bool false), (.int .u64 (.ofNat 0)), (.int .u64 (.ofNat 0))]⟩) (.n (.n .e 22947749627694682210308 311
 [(iv 1)]
 (.agg ⟨[(.bool false), (.int .u64 (.ofNat 0)), (.int .u64 (.ofNat 1))]⟩) .e) 22947749627694682211328 311
 [(iv 256)]
 (.agg ⟨[(.bool false), (.int .u64 (.ofNat 0)), (.int .u64 (.ofNat 256))]⟩) .e)) 22947749627694682472448 311
 [(iv 65536)]
 (.agg ⟨[(.bool false), (.int .u64 (.ofNat 0)), (.int .u64 (.ofNat 65536))]⟩) (.n (.n (.n .e 22947749627700150732508 311
 [(iv 1367130551)]
 (.agg ⟨[(.bool false), (.int .u64 (.ofNat 0)), (.int .u64 (.ofNat 1367130551))]⟩) .e) 22947749627705619254712 311
 [(iv 2734261102)]
 (.agg ⟨[(.bool false), (.int .u64 (.ofNat 0)), (.int .u64 (.ofNat 2734261102))]⟩) .e) 22947749627711862079488 311
 [(iv 4294967296)]
 (.agg ⟨[(.bool false), (.int .u64 (.ofNat 0)), (.int .u64 (.ofNat 4294967296))]⟩) (.n .e 22947749627729041948672 311
 [(iv 8589934592)]
 (.agg ⟨[(.bool false), (.int .u64 (.ofNat 0)), (.int .u64 (.ofNat 8589934592))]⟩) .e))) 26194376584667563295741 355
 [(nv 255)]
 (.agg ⟨[(nv 1099511627775), (.bool false)]⟩) (.n (.n (.n (.n .e 26194376584667563295744 355
 [(iv 256)]
 (.agg ⟨[(iv 1099511627776), (.bool false)]⟩) .e) 26194376584667563311104 355
 [(iv 4096)]
 (.agg ⟨[(iv 17592186044416), (.bool false)]⟩) .e) 37778931862957161709569 128
 [(.agg ⟨[(iv 0), (.bool false)]⟩)]
 (.agg ⟨[(iv 0), (.bool false)]⟩) (.n (.n .e 88544371553805847756801 300
 [(.agg ⟨[(iv 0), (.bool false)]⟩)]
 (.agg ⟨[(iv 0), (.bool false)]⟩) .e) 88544371553874567233537 300
 [(.agg ⟨[(iv 4294967296), (.bool false)]⟩)]
 (.agg ⟨[(nv 4294967295), (.bool false)]⟩) .e)) 93561885941854845796353 317
 [(.agg ⟨[(iv 0), (.bool false)]⟩)]
 (.agg ⟨[(iv 0), (.bool false)]⟩) (.n (.n (.n .e 93857033847034198622209 318
 [(.agg ⟨[(iv 0), (.bool false)]⟩)]
 (iv 0) .e) 109499872821539898392577 371
 [(.agg ⟨[(iv 0), (.bool false)]⟩)]
 (iv 0) .e) 315782036502630894094306783601860253057056 58
 [(iv 1), (iv 8)]
 (.agg ⟨[(iv 536870912), (.bool false)]⟩) (.n .e 315782036502630894094306783601860253057088 58
 [(iv 1), (iv 16)]
 (.agg ⟨[(iv 268435456), (.bool false)]⟩) .e)))) 315782036502630894094306783601860253061120 58
 [(iv 1), (iv 1024)]
 (.agg ⟨[(iv 4194304), (.bool false)]⟩) (.n (.n (.n (.n (.n .e 658786662358936865265093239987903257378816 121
 [(iv 0), (iv 0)]
 (iv 0) .e) 658786662358936865265093239987904331120640 121
 [(iv 0), (iv 268435456)]
 (nv 0) .e) 658786662358936865265093239992301303889917 121
 [(iv 0), (nv 1099511627775)]
 (iv 1) (.n (.n .e 658786662358936865265093240058272001556480 121
 [(iv 0), (iv 17592186044416)]
 (nv 0) .e) 658786662358956672305721806072301660143616 121
 [(iv 67108864), (iv 4194304)]
 (iv 1) .e)) 658786662358956672305721806072303790850048 121
 [(iv 67108864), (iv 536870912)]
 (nv 0) (.n (.n (.n .e 658786662683455418923519966771059277955072 121
 [(iv 1099511627776), (iv 0)]
 (iv 1) .e) 1638799879091239640039612109391395706372096 301
 [(iv 0), (iv 0)]
 (.agg ⟨[(.bool false), (.int .u64 (.ofNat 0)), (.int .u64 (.ofNat 0))]⟩) .e) 1638799879091239640039612109391395974807552 301
 [(iv 0), (iv 67108864)]
 (.agg ⟨[(.bool false), (.int .u64 (.ofNat 0)), (.int .u64 (.ofNat 0))]⟩) (.n .e 1638799879091239640039612109395793752883200 301
 [(iv 0), (iv 1099511627776)]
 (.agg ⟨[(.bool false), (.int .u64 (.ofNat 0)), (.int .u64 (.ofNat 0))]⟩) .e))) 1638799879092507290639840338792909589446656 301
 [(iv 4294967296), (iv 4294967296)]
 (.agg ⟨[(.bool false), (.int .u64 (.ofNat 0)), (.int .u64 (.ofNat 1))]⟩) (.n (.n (.n (.n .e 2210474255518416258658081449876766301618176 406
 [(iv 0), (iv 0)]
 (.agg ⟨[(.bool false), (.int .u64 (.ofNat 0)), (.int .u64 (.ofNat 0))]⟩) .e) 2210474255518416258658081449881164348129280 406
 [(iv 0), (iv 1099511627776)]
 (.agg ⟨[(.bool false), (.int .u64 (.ofNat 0)), (.int .u64 (.ofNat 0))]⟩) .e) 2210474255519683909258309679278280184692736 406
 [(iv 4294967296), (iv 4294967296)]
 (.agg ⟨[(.bool false), (.int .u64 (.ofNat 1)), (.int .u64 (.ofNat 0))]⟩) (.n .e 192832565311078833065035451080939512302664359253935140236166144 480
 [(.agg ⟨[(iv 0), (iv 0), (iv 256)]⟩)]
 (.agg ⟨[(nv 255), (nv 255), (iv 256), (iv 256)]⟩) .e)) 15651385118029555503019670653831363089835265880853199033637027245429381440018055171 132
 [(.agg ⟨[(iv 1), (iv 256), (iv 0), (iv 0), (.slice none 0 0)]⟩)]
 (iv 0) (.n (.n (.n .e 16718525012440661560043300851671430848611002059531742471824668339646308842779705347 141
 [(.agg ⟨[(iv 1), (iv 256), (iv 0), (iv 0), (.slice none 0 0)]⟩)]
 (iv 0) .e) 44227020068371395474430212618215399741474345031380109366408991938965566863574044675 373
 [(.agg ⟨[(iv 1), (iv 0), (iv 0), (iv 256), (.slice none 0 0)]⟩)]
 (iv 0) .e) 13342253735306250877687953871101550756455848898771570035994250137773374444884909509724376807760900251498744234639728598442379607916759797543827833286499604838486165262908309232828616063701274044200501262974646309517838908699368579375193101477162551334903330346776934657363816047337605754958014387200909639684 76
 [(.agg ⟨[(iv 1), (iv 256), (iv 0), (iv 0), (.slice none 0 0), (iv 0), (.bool false), (iv 0), (.bool false), (iv 4294967296), (.bool false), (iv 0), (.bool false), (iv 0), (.bool false), (iv 0), (.bool false), (iv 0), (.bool false), (iv 1367130551), (.bool false), (iv 2734261102), (.bool false), (iv 0), (.bool false), (.bool false), (iv 1)]⟩)]
 (.agg ⟨[(iv 1), (iv 256), (iv 0), (iv 0), (.slice none 0 0), (iv 0), (.bool false), (iv 0), (.bool false), (iv 4294967296), (.bool false), (iv 0), (.bool false), (iv 0), (.bool false), (iv 0), (.bool false), (iv 0), (.bool false), (iv 1367130551), (.bool false), (iv 2734261102), (.bool false), (iv 0), (.bool false), (.bool false), (iv 1)]⟩) (.n .e 32477854487258637004884659515242536690475330412903544296544913073508590912462648749436509647743733675621881356618226524208793753230013129430273507055740502843541536730984811083528754673599539922150097006897757275146118620003400272813334243126527950603267789003632312106733200624773434931937559152756613185540 185
 [(.agg ⟨[(iv 1), (iv 256), (iv 0), (iv 0), (.slice none 0 0), (iv 0), (.bool false), (iv 0), (.bool false), (iv 4294967296), (.bool false), (iv 0), (.bool false), (iv 0), (.bool false), (iv 0), (.bool false), (iv 0), (.bool false), (iv 1367130551), (.bool false), (iv 2734261102), (.bool false), (iv 0), (.bool false), (.bool false), (iv 1)]⟩)]
 (.bool false) .e)))))
theorem t4ok : t4.good (fun g args => callM Tryz.prog ⟨304, 306, 1000000⟩ (prims) us4 km kr 100000 100 g args m0) = true := by kernel_rfl
theorem t4k : MTK Tryz.prog t4 := good_ok (callM_sound pok primsOK us4k km kr 100000 100) t4ok
def us5 : List MT := [t0, t1, t2, t3, t4]
theorem us5k : MemoOK Tryz.prog us5 := (memoCons t0k (memoCons t1k (memoCons t2k (memoCons t3k (memoCons t4k memoNil)))))
def t5 : MT := (.n (.n (.n (.n (.n .e 16159347808569567215620 219
 [(iv 1)]
 (.agg ⟨[(iv 4294967296), (.bool false)]⟩) .e) 16159347808569567216640 219
 [(iv 256)]
 (.agg ⟨[(iv 1099511627776), (.bool false)]⟩) .e) 66703426570533738643457 226
 [(.agg ⟨[(iv 0), (.bool false)]⟩)]
 (.bool false) (.n (.n .e 93266738036675492970497 316
 [(.agg ⟨[(iv 0), (.bool false)]⟩)]
 (.bool false) .e) 93266738036744212447233 316
 [(.agg ⟨[(iv 4294967296), (.bool false)]⟩)]
 (.bool false) .e)) 1203238449432438426149305725712799191269376 221
 [(iv 65536), (iv 65536)]
 (.agg ⟨[(iv 4294967296), (.bool false)]⟩) (.n (.n (.n .e 1203238449432841912524726956261385495904256 221
 [(iv 1367130551), (iv 4294967296)]
 (.agg ⟨[(iv 1367130551), (.bool false)]⟩) .e) 1203238449433245418242961300644021416230912 221
 [(iv 2734261102), (iv 4294967296)]
 (.agg ⟨[(iv 2734261102), (.bool false)]⟩) .e) 1203238449433706057406720841280283071064608 221
 [(iv 4294967296), (iv 13493037704)]
 (.agg ⟨[(iv 1367130551), (.bool false)]⟩) (.n (.n .e 1203238449434973708006949070681742981988352 221
 [(iv 8589934592), (iv 4294967296)]
 (.agg ⟨[(iv 8589934592), (.bool false)]⟩) .e) 1203238449434973708006949070681779774269984 221
 [(iv 8589934592), (iv 13493037704)]
 (.agg ⟨[(iv 2734261102), (.bool false)]⟩) .e))) 4965400298110334058857857419549545389359105 57
 [(.agg ⟨[(iv 0), (.bool false)]⟩), (.agg ⟨[(iv 268435456), (.bool false)]⟩)]
 (nv 0) (.n (.n (.n (.n .e 4965400298110334058857857419831016071102465 57
 [(.agg ⟨[(iv 0), (.bool false)]⟩), (.agg ⟨[(iv 17592186044416), (.bool false)]⟩)]
 (nv 0) .e) 4965400298110650971507914476899915337302017 57
 [(.agg ⟨[(iv 67108864), (.bool false)]⟩), (.agg ⟨[(iv 4194304), (.bool false)]⟩)]
 (iv 1) .e) 4965400298110650971507914476899923860127745 57
 [(.agg ⟨[(iv 67108864), (.bool false)]⟩), (.agg ⟨[(iv 536870912), (.bool false)]⟩)]
 (nv 0) (.n (.n .e 21429622339213020675069774425528215311220737 246
 [(.agg ⟨[(iv 0), (.bool false)]⟩), (.agg ⟨[(iv 67108864), (.bool false)]⟩)]
 (.agg ⟨[(iv 0), (.bool false)]⟩) .e) 21429622339213020675069774425545806423523329 246
 [(.agg ⟨[(iv 0), (.bool false)]⟩), (.agg ⟨[(iv 1099511627776), (.bool false)]⟩)]
 (.agg ⟨[(iv 0), (.bool false)]⟩) .e)) 26046573493616596156944492769586392581799937 299
 [(.agg ⟨[(iv 4294967296), (.bool false), (iv 0), (.bool false)]⟩)]
 (.bool false) (.n (.n (.n .e 27788819212231518680273319089230690759213057 319
 [(.agg ⟨[(iv 0), (.bool false)]⟩), (.agg ⟨[(iv 1099511627776), (.bool false)]⟩)]
 (.agg ⟨[(iv 0), (.bool false)]⟩) .e) 9178830108807352453895774583743844842712001705388406323537772545 357
 [(.agg ⟨[(iv 0), (.bool false)]⟩), (.agg ⟨[(nv 1099511627775), (.bool false)]⟩), (.agg ⟨[(iv 1099511627776), (.bool false)]⟩)]
 (.agg ⟨[(iv 0), (.bool false)]⟩) .e) 31184199136680099221919176866836793800882013958642356233004489676314231940931653635 263
 [(.agg ⟨[(iv 1), (iv 0), (iv 0), (iv 256), (.slice none 0 0)]⟩)]
 (.iface 329 (.agg ⟨[(iv 0), (iv 0), (iv 256)]⟩)) (.n (.n .e 1608772676376198733919983486926524022219101347989996877588494578835348160483931717633 212
 [(.agg ⟨[(iv 4294967296), (.bool false)]⟩), (.agg ⟨[(iv 4294967296), (.bool false)]⟩), (.agg ⟨[(iv 0), (.bool false)]⟩), (.agg ⟨[(iv 0), (.bool false)]⟩)]
 (.agg ⟨[(iv 4294967296), (.bool false)]⟩) .e) 2390393363482644414797735738500049207313507224639881138092153478066235431484464824321 315
 [(.agg ⟨[(iv 4294967296), (.bool false)]⟩), (.agg ⟨[(iv 4294967296), (.bool false)]⟩), (.agg ⟨[(iv 0), (.bool false)]⟩), (.agg ⟨[(iv 0), (.bool false)]⟩)]
 (.agg ⟨[(iv 4294967296), (.bool false)]⟩) .e))))
theorem t5ok : t5.good (fun g args => callM Tryz.prog ⟨304, 306, 1000000⟩ (prims) us5 km kr 100000 100 g args m0) = true := by kernel_rfl
theorem t5k : MTK Tryz.prog t5 := good_ok (callM_sound pok primsOK us5k km kr 100000 100) t5ok
def us6 : List MT := [t0, t1, t2, t3, t4, t5]
theorem us6k : MemoOK Tryz.prog us6 := (memoCons t0k (memoCons t1k (memoCons t2k (memoCons t3k (memoCons t4k (memoCons t5k memoNil))))))
def t6 : MT := (.n (.n (.n (.n .e 76148159536273029070849 258
 [(.agg ⟨[(iv 0), (.bool false)]⟩)]
 (.bool true) .e) 11585934028944395213604925452165970667765761 133
 [(.agg ⟨[(iv 4294967296), (.bool false), (iv 0), (.bool false)]⟩)]
 (iv 0) (.n .e 19164702904993710353749302548584608466731009 220
 [(.agg ⟨[(iv 1367130551), (.bool false)]⟩), (.agg ⟨[(iv 4294967296), (.bool false)]⟩)]
 (.agg ⟨[(iv 1367130551), (.bool false)]⟩) .e)) 19164702905000166445241052058706783191957505 220
 [(.agg ⟨[(iv 2734261102), (.bool false)]⟩), (.agg ⟨[(iv 4294967296), (.bool false)]⟩)]
 (.agg ⟨[(iv 2734261102), (.bool false)]⟩) (.n (.n .e 19164702905007536671861204708886528161917057 220
 [(.agg ⟨[(iv 4294967296), (.bool false)]⟩), (.agg ⟨[(iv 13493037704), (.bool false)]⟩)]
 (.agg ⟨[(iv 1367130551), (.bool false)]⟩) .e) 19164702905027819081464856379310475413203073 220
 [(.agg ⟨[(iv 8589934592), (.bool false)]⟩), (.agg ⟨[(iv 13493037704), (.bool false)]⟩)]
 (.agg ⟨[(iv 2734261102), (.bool false)]⟩) (.n .e 19600264334666337905094324206398975583977473 225
 [(.agg ⟨[(iv 4294967296), (.bool false), (iv 0), (.bool false)]⟩)]
 (iv 0) .e))) 19774488906509575988783920334980093656956929 227
 [(.agg ⟨[(iv 0), (.bool false), (iv 0), (.bool false)]⟩)]
 (.agg ⟨[(iv 0), (iv 0)]⟩) (.n (.n (.n .e 22562082056325903881475885119061138845204481 259
 [(.agg ⟨[(iv 0), (.bool false), (iv 0), (.bool false)]⟩)]
 (.agg ⟨[(iv 0), (iv 0)]⟩) .e) 1600510292081954314439816022043280892173775911569513591963911168 249
 [(.agg ⟨[(iv 0), (.bool false), (iv 0), (.bool false)]⟩), (iv 256)]
 (.agg ⟨[(iv 0), (.bool false), (iv 0), (.bool false)]⟩) (.n .e 6453463185744104946576606875128040771975814142079103739659026433 251
 [(.agg ⟨[(iv 0), (.bool false), (iv 0), (.bool false)]⟩), (.agg ⟨[(iv 67108864), (.bool false)]⟩)]
 (.agg ⟨[(iv 0), (.bool false), (iv 0), (.bool false)]⟩) .e)) 25492786366487533584459815811689765754078087672356791229337070507157285792869519363 215
 [(.agg ⟨[(iv 1), (iv 0), (iv 0), (iv 256), (.slice none 0 0)]⟩)]
 (.agg ⟨[(nv 255), (nv 255), (iv 256), (iv 256)]⟩) (.n (.n .e 2519712834950029736877596850037015860023307738081620577269336829171678203540343951185146887972478517264 18
 [(.agg ⟨[(iv 0), (.bool false), (iv 0), (.bool false), (iv 67108864), (.bool false), (iv 3), (iv 4)]⟩)]
 (iv 0) .e) 33355634338265627194205609315432490173687233234652717427762833391661582493544196420982937759669551722600006912672286062087987062648052273094789363650659810091479856523098412085854449105246249366092739013499734842376773652632025579851781084486590583597229461419084393641107943036582417921707263041084856467460 190
 [(.agg ⟨[(iv 1), (iv 256), (iv 0), (iv 0), (.slice none 0 0), (iv 0), (.bool false), (iv 0), (.bool false), (iv 4294967296), (.bool false), (iv 0), (.bool false), (iv 0), (.bool false), (iv 0), (.bool false), (iv 0), (.bool false), (iv 1367130551), (.bool false), (iv 2734261102), (.bool false), (iv 0), (.bool false), (.bool false), (iv 1)]⟩)]
 (.agg ⟨[(iv 1), (iv 256), (iv 0), (iv 0), (.slice none 0 0), (iv 0), (.bool false), (iv 0), (.bool false), (iv 4294967296), (.bool false), (iv 0), (.bool false), (iv 0), (.bool false), (iv 0), (.bool false), (iv 0), (.bool false), (iv 1367130551), (.bool false), (iv 2734261102), (.bool false), (iv 1), (.bool false), (.bool false), (iv 1)]⟩) .e)))
theorem t6ok : t6.good (fun g args => callM Tryz.prog ⟨304, 306, 1000000⟩ (prims) us6 km kr 100000 100 g args m0) = true := by kernel_rfl
theorem t6k : MTK Tryz.prog t6 := good_ok (callM_sound pok primsOK us6k km kr 100000 100) t6ok
def us7 : List MT := [t0, t1, t2, t3, t4, t5, t6]
theorem us7k : MemoOK Tryz.prog us7 := (memoCons t0k (memoCons t1k (memoCons t2k (memoCons t3k (memoCons t4k (memoCons t5k (memoCons t6k memoNil)))))))
def t7 : MT := (.n (.n (.n .e 1242358411676750773044055549400324982658700688059261455602559667480601117800533878742046405475962978308 142
 [(.agg ⟨[(iv 1), (iv 256), (iv 0), (iv 0), (.slice none 0 0)]⟩), (iv 1)]
 (.tuple ⟨[(.agg ⟨[(iv 1367130551), (.bool false), (iv 2734261102), (.bool false)]⟩), (iv 0)]⟩) .e) 128668934523935416548430178640917768542457905368160637571540621541534084367632799040223217128897469993755520938831816398728840793764146721475650754317279482320257025 143
 [(.agg ⟨[(iv 1), (iv 256), (iv 0), (iv 0), (.slice none 0 0)]⟩), (.agg ⟨[(iv 0), (.bool false), (iv 0), (.bool false), (iv 4294967296), (.bool false), (iv 0), (.bool false)]⟩)]
 (.tuple ⟨[(.agg ⟨[(iv 1), (iv 0), (iv 0), (iv 256), (.slice none 0 0)]⟩), (iv 0)]⟩) .e) 158361765567920512674979732791645248810997906348953287350005608320772212400064618984328885657183149650944998949013054306542015349730409099423106954510989563764146177 176
 [(.agg ⟨[(iv 1), (iv 256), (iv 0), (iv 0), (.slice none 0 0)]⟩), (.agg ⟨[(iv 0), (.bool false), (iv 0), (.bool false), (iv 4294967296), (.bool false), (iv 0), (.bool false)]⟩)]
 (.tuple ⟨[(.agg ⟨[(iv 1), (iv 0), (iv 0), (iv 256), (.slice none 0 0)]⟩), (iv 0)]⟩) (.n (.n .e 9896660577714259994966421368691403014110694300239500869405680273526706425847474054815964483671440887442600975403072145988193819935529891261189984082114934794575891801943099560795059461108909604229252914625883890954837014436273901190150351935585311325231190823671555284343442507929124688413126648605713881618003679808829719052289 191
 [(.agg ⟨[(iv 1), (iv 256), (iv 0), (iv 0), (.slice none 0 0), (iv 0), (.bool false), (iv 0), (.bool false), (iv 4294967296), (.bool false), (iv 0), (.bool false), (iv 0), (.bool false), (iv 0), (.bool false), (iv 0), (.bool false), (iv 1367130551), (.bool false), (iv 2734261102), (.bool false), (iv 0), (.bool false), (.bool false), (iv 1)]⟩), (.agg ⟨[(iv 67108864), (.bool false)]⟩)]
 (.agg ⟨[(iv 1), (iv 256), (iv 0), (iv 0), (.slice none 0 0), (iv 0), (.bool false), (iv 0), (.bool false), (iv 4294967296), (.bool false), (iv 0), (.bool false), (iv 0), (.bool false), (iv 0), (.bool false), (iv 0), (.bool false), (iv 1367130551), (.bool false), (iv 2734261102), (.bool false), (iv 0), (.bool false), (.bool false), (iv 1)]⟩) .e) 844065841700965021274481110496973516529553739347591245410645525081428233504859807961618410586832470315233920856811558027485961013573678527088432739080009468546708107679659039444910944802625762522472640975015048064052934273310405832172329716083904761705417579477079829388654188321572322921144894506296183575315300738135787871843203932326753672481038325151153913377849345 187
 [(.agg ⟨[(iv 1), (iv 256), (iv 0), (iv 0), (.slice none 0 0), (iv 0), (.bool false), (iv 0), (.bool false), (iv 4294967296), (.bool false), (iv 0), (.bool false), (iv 0), (.bool false), (iv 0), (.bool false), (iv 0), (.bool false), (iv 1367130551), (.bool false), (iv 2734261102), (.bool false), (iv 0), (.bool false), (.bool false), (iv 1)]⟩), (.agg ⟨[(iv 0), (.bool false), (iv 0), (.bool false)]⟩), (.agg ⟨[(iv 67108864), (.bool false)]⟩)]
 (.agg ⟨[(iv 1), (iv 256), (iv 0), (iv 0), (.slice none 0 0), (iv 0), (.bool false), (iv 0), (.bool false), (iv 4294967296), (.bool false), (iv 0), (.bool false), (iv 0), (.bool false), (iv 0), (.bool false), (iv 0), (.bool false), (iv 1367130551), (.bool false), (iv 2734261102), (.bool false), (iv 0), (.bool false), (.bool false), (iv 1)]⟩) .e))
theorem t7ok : t7.good (fun g args => callM Tryz.prog ⟨304, 306, 1000000⟩ (prims) us7 km kr 100000 100 g args m0) = true := by kernel_rfl
theorem t7k : MTK Tryz.prog t7 := good_ok (callM_sound pok primsOK us7k km kr 100000 100) t7ok
def us8 : List MT := [t0, t1, t2, t3, t4, t5, t6, t7]
theorem us8k : MemoOK Tryz.prog us8 := (memoCons t0k (memoCons t1k (memoCons t2k (memoCons t3k (memoCons t4k (memoCons t5k (memoCons t6k (memoCons t7k memoNil))))))))
def t8 : MT := (.n (.n .e 17380041049938405748564322951975336779230601878817766439596683601277135717860028798837946122619663267598121792488402472686668831239739858400600773623128418179002436306630873843526810449276137486336654493343743118778852058791044991752048571733450663107127023457856509715487631141658927507898652273510828736516 99
 [(.agg ⟨[(iv 1), (iv 256), (iv 0), (iv 0), (.slice none 0 0), (iv 0), (.bool false), (iv 0), (.bool false), (iv 4294967296), (.bool false), (iv 0), (.bool false), (iv 0), (.bool false), (iv 0), (.bool false), (iv 0), (.bool false), (iv 1367130551), (.bool false), (iv 2734261102), (.bool false), (iv 0), (.bool false), (.bool false), (iv 1)]⟩)]
 (.tuple ⟨[(.agg ⟨[(iv 1), (iv 0), (iv 0), (iv 256), (.slice none 0 0)]⟩), (iv 0)]⟩) .e) 17380041049938405748564322951975336779230601878817766439596683601277135717860028798837946122619663267598121792488402472686668831239739858400600773623128418179002436306630873843526810449276137486336654493343743118778852058791044991752048571733450663107127023457856509715487631141658927512621018756380473950212 99
 [(.agg ⟨[(iv 1), (iv 256), (iv 0), (iv 0), (.slice none 0 0), (iv 0), (.bool false), (iv 0), (.bool false), (iv 4294967296), (.bool false), (iv 0), (.bool false), (iv 0), (.bool false), (iv 0), (.bool false), (iv 0), (.bool false), (iv 1367130551), (.bool false), (iv 2734261102), (.bool false), (iv 1), (.bool false), (.bool false), (iv 1)]⟩)]
 (.tuple ⟨[(.agg ⟨[(iv 1), (iv 0), (iv 0), (iv 256), (.slice none 0 0)]⟩), (iv 0)]⟩) .e)
theorem t8ok : t8.good (fun g args => callM Tryz.prog ⟨304, 306, 1000000⟩ (prims) us8 km kr 100000 100 g args m0) = true := by kernel_rfl
theorem t8k : MTK Tryz.prog t8 := good_ok (callM_sound pok primsOK us8k km kr 100000 100) t8ok
def us9 : List MT := [t0, t1, t2, t3, t4, t5, t6, t7, t8]
theorem us9k : MemoOK Tryz.prog us9 := (memoCons t0k (memoCons t1k (memoCons t2k (memoCons t3k (memoCons t4k (memoCons t5k (memoCons t6k (memoCons t7k (memoCons t8k memoNil)))))))))
def t9 : MT := (.n (.n .e 24051167917591531187403541433418983251641063324111482236852878019239871734079791102590799773255880424631876018499254960568537982816837350250921283744515153263333666726694241461202088129791129260300733743518772629731830306768597325244244566069926673861235733815292329376735673471407198230148401824805477679108 137
 [(.agg ⟨[(iv 1), (iv 256), (iv 0), (iv 0), (.slice none 0 0), (iv 0), (.bool false), (iv 0), (.bool false), (iv 4294967296), (.bool false), (iv 0), (.bool false), (iv 0), (.bool false), (iv 0), (.bool false), (iv 0), (.bool false), (iv 1367130551), (.bool false), (iv 2734261102), (.bool false), (iv 0), (.bool false), (.bool false), (iv 1)]⟩)]
 (.agg ⟨[(nv 255), (nv 255), (iv 256), (iv 256)]⟩) .e) 24051167917591531187403541433418983251641063324111482236852878019239871734079791102590799773255880424631876018499254960568537982816837350250921283744515153263333666726694241461202088129791129260300733743518772629731830306768597325244244566069926673861235733815292329376735673471407198234870768307675122892804 137
 [(.agg ⟨[(iv 1), (iv 256), (iv 0), (iv 0), (.slice none 0 0), (iv 0), (.bool false), (iv 0), (.bool false), (iv 4294967296), (.bool false), (iv 0), (.bool false), (iv 0), (.bool false), (iv 0), (.bool false), (iv 0), (.bool false), (iv 1367130551), (.bool false), (iv 2734261102), (.bool false), (iv 1), (.bool false), (.bool false), (iv 1)]⟩)]
 (.agg ⟨[(nv 255), (nv 255), (iv 256), (iv 256)]⟩) .e)
theorem t9ok : t9.good (fun g args => callM Tryz.prog ⟨304, 306, 1000000⟩ (prims) us9 km kr 100000 100 g args m0) = true := by kernel_rfl
theorem t9k : MTK Tryz.prog t9 := good_ok (callM_sound pok primsOK us9k km kr 100000 100) t9ok
end Go.Proofs.YtkdoiehdifpihaaGreat.Aw
