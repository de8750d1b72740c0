/- The law: its contract. -/
import Derived.Test.YtbmbakmhnimkfaaGreatZC0
import Derived.Test.YtbmbakmhnimkfaaGreatZC1
import Derived.Test.YtbmbakmhnimkfaaGreatZC2
import Derived.Test.YtbmbakmhnimkfaaGreatZC3
import Derived.Test.YtbmbakmhnimkfaaGreatZC4
import Derived.Test.YtbmbakmhnimkfaaGreatZC5
import Derived.Test.YtbmbakmhnimkfaaGreatZC6
import Derived.Test.YtbmbakmhnimkfaaGreatZC7
import Derived.Test.YtbmbakmhnimkfaaGreatZC8
import Derived.Test.YtbmbakmhnimkfaaGreatZC9
import Derived.Test.YtbmbakmhnimkfaaGreatZC10
import Derived.Test.YtbmbakmhnimkfaaGreatZC11
import Derived.Test.YtbmbakmhnimkfaaGreatZC12
import Derived.Test.YtbmbakmhnimkfaaGreatZC13
import Derived.Test.YtbmbakmhnimkfaaGreatZC14
import Derived.Test.YtbmbakmhnimkfaaGreatZC15
import Derived.Test.YtbmbakmhnimkfaaGreatZV0
import Derived.Test.YtbmbakmhnimkfaaGreatZV1
import Derived.Test.YtbmbakmhnimkfaaGreatZV2
import Derived.Test.YtbmbakmhnimkfaaGreatZV3
import Derived.Test.YtbmbakmhnimkfaaGreatZV4
import Derived.Test.YtbmbakmhnimkfaaGreatZV5
import Derived.Test.YtbmbakmhnimkfaaGreatZV6
import Derived.Test.YtbmbakmhnimkfaaGreatZV7
set_option linter.unusedSimpArgs false
set_option linter.unusedVariables false
namespace Go.Proofs.YtbmbakmhnimkfaaGreat.U
open Go Go.Eng
set_option maxRecDepth 100000
theorem lw_ok0 (u : Nat → Value) : cutU (P := Tryz.prog) lw_d ⟨252, 254, 367⟩ prA lw_f u lw_k0 = true := cutU_of (by kernel_rfl) (chk_o (lw_w0 u) (chk_o (lw_w1 u) (chk_o (lw_w2 u) (chk_o (lw_w3 u) (chk_o (lw_w4 u) (chk_o (lw_w5 u) (chk_o (lw_w6 u) (chk_o (lw_w7 u) (chk_o (lw_w8 u) (chk_o (lw_w9 u) (chk_o (lw_w10 u) (chk_o (lw_w11 u) (chk_o (lw_w12 u) (chk_o (lw_w13 u) (chk_o (lw_w14 u) (chk_o (lw_w15 u) (chk_o (lw_w16 u) (chk_o (lw_w17 u) (chk_o (lw_w18 u) (chk_o (lw_w19 u) (chk_o (lw_w20 u) (chk_o (lw_w21 u) (chk_o (lw_w22 u) (chk_o (lw_w23 u) (chk_o (lw_w24 u) (chk_o (lw_w25 u) (chk_o (lw_w26 u) (chk_o (lw_w27 u) (chk_o (lw_w28 u) (chk_o (lw_w29 u) (chk_o (lw_w30 u) (chk_c (lw_w31 u)))))))))))))))))))))))))))))))))
theorem lw_ok (u : Nat → Value) : lw_f.okU (P := Tryz.prog) lw_d ⟨252, 254, 367⟩ prA u = true := okU_of rfl (allC (lw_ok0 u) (allC (lw_ok1 u) (allC (lw_ok2 u) (allC (lw_ok3 u) (allC (lw_ok4 u) (allC (lw_ok5 u) (allC (lw_ok6 u) (allC (lw_ok7 u) (allC (lw_ok8 u) (allC (lw_ok9 u) (allC (lw_ok10 u) (allC (lw_ok11 u) (allC (lw_ok12 u) (allC (lw_ok13 u) (allC (lw_ok14 u) (allC (lw_ok15 u) (allC (lw_ok16 u) (allC (lw_ok17 u) (allC (lw_ok18 u) (allC (lw_ok19 u) (allC (lw_ok20 u) (allC (lw_ok21 u) (allC (lw_ok22 u) (allC (lw_ok23 u) (allC (lw_ok24 u) (allC (lw_ok25 u) (allC (lw_ok26 u) (allC (lw_ok27 u) (allC (lw_ok28 u) (allC (lw_ok29 u) (allC (lw_ok30 u) (allC (lw_ok31 u) (allC (lw_ok32 u) (allC (lw_ok33 u) (allC (lw_ok34 u) (allC (lw_ok35 u) (allC (lw_ok36 u) (allC (lw_ok37 u) (allC (lw_ok38 u) (allC (lw_ok39 u) (allC (lw_ok40 u) (allC (lw_ok41 u) (allC (lw_ok42 u) (allC (lw_ok43 u) (allC (lw_ok44 u) (allC (lw_ok45 u) (allC (lw_ok46 u) (allC (lw_ok47 u) (allC (lw_ok48 u) (allC (lw_ok49 u) (allC (lw_ok50 u) (allC (lw_ok51 u) (allC (lw_ok52 u) (allC (lw_ok53 u) (allC (lw_ok54 u) (allC (lw_ok55 u) (allC (lw_ok56 u) (allC (lw_ok57 u) (allC (lw_ok58 u) (allC (lw_ok59 u) (allC (lw_ok60 u) (allC (lw_ok61 u) (allC (lw_ok62 u) (allC (lw_ok63 u) (allC (lw_ok64 u) rfl)))))))))))))))))))))))))))))))))))))))))))))))))))))))))))))))))
noncomputable def lw_c : Ctr Tryz.prog := CFn.ctr0 pok prA_ok lw_d lw_f rfl lw_ok (by kernel_rfl) ⟨_, rfl, rfl, rfl, rfl, rfl, rfl⟩ (.inl rfl)
end Go.Proofs.YtbmbakmhnimkfaaGreat.U
