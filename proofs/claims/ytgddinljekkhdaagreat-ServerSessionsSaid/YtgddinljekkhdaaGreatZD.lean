/- The law: its contract. -/
import Derived.Test.YtgddinljekkhdaaGreatZC0
import Derived.Test.YtgddinljekkhdaaGreatZC1
import Derived.Test.YtgddinljekkhdaaGreatZC2
import Derived.Test.YtgddinljekkhdaaGreatZC3
import Derived.Test.YtgddinljekkhdaaGreatZC4
import Derived.Test.YtgddinljekkhdaaGreatZC5
import Derived.Test.YtgddinljekkhdaaGreatZC6
import Derived.Test.YtgddinljekkhdaaGreatZC7
set_option linter.unusedSimpArgs false
set_option linter.unusedVariables false
namespace Go.Proofs.YtgddinljekkhdaaGreat.U
open Go Go.Eng
set_option maxRecDepth 100000
theorem lw_ok (u : Nat → Value) : lw_f.okU (P := Tryz.prog) lw_d ⟨440, 442, 240⟩ prA u = true := okU_of rfl (allC (lw_ok0 u) (allC (lw_ok1 u) (allC (lw_ok2 u) (allC (lw_ok3 u) (allC (lw_ok4 u) (allC (lw_ok5 u) (allC (lw_ok6 u) (allC (lw_ok7 u) (allC (lw_ok8 u) (allC (lw_ok9 u) (allC (lw_ok10 u) (allC (lw_ok11 u) (allC (lw_ok12 u) (allC (lw_ok13 u) (allC (lw_ok14 u) (allC (lw_ok15 u) (allC (lw_ok16 u) (allC (lw_ok17 u) (allC (lw_ok18 u) (allC (lw_ok19 u) (allC (lw_ok20 u) (allC (lw_ok21 u) (allC (lw_ok22 u) (allC (lw_ok23 u) (allC (lw_ok24 u) (allC (lw_ok25 u) (allC (lw_ok26 u) (allC (lw_ok27 u) (allC (lw_ok28 u) (allC (lw_ok29 u) (allC (lw_ok30 u) (allC (lw_ok31 u) (allC (lw_ok32 u) (allC (lw_ok33 u) (allC (lw_ok34 u) (allC (lw_ok35 u) (allC (lw_ok36 u) (allC (lw_ok37 u) (allC (lw_ok38 u) (allC (lw_ok39 u) (allC (lw_ok40 u) (allC (lw_ok41 u) (allC (lw_ok42 u) (allC (lw_ok43 u) (allC (lw_ok44 u) (allC (lw_ok45 u) (allC (lw_ok46 u) (allC (lw_ok47 u) (allC (lw_ok48 u) (allC (lw_ok49 u) (allC (lw_ok50 u) (allC (lw_ok51 u) (allC (lw_ok52 u) (allC (lw_ok53 u) (allC (lw_ok54 u) (allC (lw_ok55 u) (allC (lw_ok56 u) (allC (lw_ok57 u) (allC (lw_ok58 u) (allC (lw_ok59 u) (allC (lw_ok60 u) (allC (lw_ok61 u) (allC (lw_ok62 u) (allC (lw_ok63 u) (allC (lw_ok64 u) (allC (lw_ok65 u) (allC (lw_ok66 u) (allC (lw_ok67 u) (allC (lw_ok68 u) (allC (lw_ok69 u) (allC (lw_ok70 u) (allC (lw_ok71 u) (allC (lw_ok72 u) (allC (lw_ok73 u) (allC (lw_ok74 u) (allC (lw_ok75 u) (allC (lw_ok76 u) (allC (lw_ok77 u) (allC (lw_ok78 u) (allC (lw_ok79 u) (allC (lw_ok80 u) (allC (lw_ok81 u) (allC (lw_ok82 u) (allC (lw_ok83 u) (allC (lw_ok84 u) (allC (lw_ok85 u) (allC (lw_ok86 u) (allC (lw_ok87 u) (allC (lw_ok88 u) (allC (lw_ok89 u) (allC (lw_ok90 u) (allC (lw_ok91 u) (allC (lw_ok92 u) rfl)))))))))))))))))))))))))))))))))))))))))))))))))))))))))))))))))))))))))))))))))))))))))))))
noncomputable def lw_c : Ctr Tryz.prog := CFn.ctr0 pok prA_ok lw_d lw_f rfl lw_ok (by kernel_rfl) ⟨_, rfl, rfl, rfl, rfl, rfl, rfl⟩ (.inl rfl)
end Go.Proofs.YtgddinljekkhdaaGreat.U
