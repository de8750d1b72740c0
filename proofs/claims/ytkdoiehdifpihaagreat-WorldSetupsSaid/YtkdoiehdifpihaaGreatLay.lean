/-
  DERIVED: THE SHELF's CONTRACTS AT THIS DUMP, IN PLAIN WORDS (tools/lay-plain.mjs out of 'YtkdoiehdifpihaaGreatShelf.lean', which tools/lay-shelf.mjs wrote): THE SAME DECLARATIONS UNDER THE SAME NAMES: 'import', 'namespace', 'open', 'def', 'theorem' AND NOTHING ELSE: no command of the shelf's: FOR A HAND-IN. Each laying: the table of numbers ('.._ren') and one theorem, a field a fact of the dump's own or the kernel's comparison; each contract: ONE APPLICATION.
-/
import Derived.Shelf.SlGeneric
import Derived.Shelf.SlIterI.Nil
import Derived.Shelf.SortM.Plain
import Derived.Shelf.SortM.SortNone
import Derived.Ground.GgzProg
import Derived.Ground.SlgmProg
import Derived.Test.YtkdoiehdifpihaaGreatProg
namespace Go.Proofs
open Go.Shelf
def Tryz.keysA_ren : Go.Shelf.Ren := ⟨fun | 7 => 231 | 10 => 324 | n => n, fun | 23 => 248 | 26 => 3 | 3 => 75 | 28 => 317 | 0 => 0 | 27 => 316 | 33 => 114 | 4 => 4 | n => n, fun | n => n⟩
theorem Tryz.keysA : Go.Proofs.SlLaysZI.n7 Tryz.prog Tryz.keysA_ren := {
  mixed := by kernel_rfl
  f7 := ⟨Tryz.f231.name, by decide, Tryz.func231.trans (congrArg some (by kernel_rfl))⟩
  f10 := ⟨Tryz.f324.name, by decide, Tryz.func324.trans (congrArg some (by kernel_rfl))⟩
  t0 := Tryz.underlying0
  a0 := Tryz.isAgg0
  z0 := Tryz.sizeOf0
  v0 := Tryz.zeroValue0
  t4 := Tryz.underlying4
  a4 := Tryz.isAgg4
  z4 := Tryz.sizeOf4
  v4 := Tryz.zeroValue4
  t23 := Tryz.underlying248
  a23 := Tryz.isAgg248
  z23 := Tryz.sizeOf248
  v23 := Tryz.zeroValue248
  t26 := Tryz.underlying3
  a26 := Tryz.isAgg3
  z26 := Tryz.sizeOf3
  v26 := Tryz.zeroValue3
  t27 := Tryz.underlying316
  a27 := Tryz.isAgg316
  z27 := Tryz.sizeOf316
  v27 := Tryz.zeroValue316
  t28 := Tryz.underlying317
  a28 := Tryz.isAgg317
  z28 := Tryz.sizeOf317
  v28 := Tryz.zeroValue317
  t33 := Tryz.underlying114
  a33 := Tryz.isAgg114
  z33 := Tryz.sizeOf114
  v33 := Tryz.zeroValue114 }
def Tryz.sortedA_ren : Go.Shelf.Ren := ⟨fun | 6 => 230 | 8 => 322 | 9 => 323 | 11 => 409 | 13 => 233 | 12 => 410 | 23 => 333 | 24 => 291 | 14 => 442 | 15 => 443 | 16 => 444 | 17 => 445 | 18 => 446 | 19 => 447 | 20 => 448 | 21 => 449 | 22 => 450 | 25 => 457 | 26 => 412 | 27 => 413 | 28 => 458 | 29 => 459 | 30 => 234 | 31 => 460 | n => n, fun | 26 => 3 | 28 => 317 | 24 => 28 | 0 => 0 | 3 => 3 | 37 => 195 | 48 => 422 | 50 => 216 | 4 => 4 | 40 => 416 | 39 => 415 | 45 => 273 | 5 => 5 | 9 => 9 | 51 => 482 | 55 => 486 | 57 => 512 | 58 => 513 | 33 => 114 | n => n, fun | n => n⟩
theorem Tryz.sortedA : Go.Proofs.SlLaysZI.n6 Tryz.prog Tryz.sortedA_ren := {
  mixed := by kernel_rfl
  f6 := ⟨Tryz.f230.name, by decide, Tryz.func230.trans (congrArg some (by kernel_rfl))⟩
  f8 := ⟨Tryz.f322.name, by decide, Tryz.func322.trans (congrArg some (by kernel_rfl))⟩
  f11 := ⟨Tryz.f409.name, by decide, Tryz.func409.trans (congrArg some (by kernel_rfl))⟩
  t0 := Tryz.underlying0
  a0 := Tryz.isAgg0
  z0 := Tryz.sizeOf0
  v0 := Tryz.zeroValue0
  t24 := Tryz.underlying28
  a24 := Tryz.isAgg28
  z24 := Tryz.sizeOf28
  v24 := Tryz.zeroValue28
  t26 := Tryz.underlying3
  a26 := Tryz.isAgg3
  z26 := Tryz.sizeOf3
  v26 := Tryz.zeroValue3
  t28 := Tryz.underlying317
  a28 := Tryz.isAgg317
  z28 := Tryz.sizeOf317
  v28 := Tryz.zeroValue317
  i26 := by kernel_rfl }
def Tryz.sortA_ren : Go.Shelf.Ren := ⟨fun | 5 => 323 | 8 => 233 | 7 => 410 | 19 => 333 | 20 => 291 | 10 => 442 | 11 => 443 | 12 => 444 | 13 => 445 | 14 => 446 | 15 => 447 | 16 => 448 | 17 => 449 | 18 => 450 | 30 => 457 | 31 => 412 | 32 => 413 | 33 => 458 | 34 => 459 | 35 => 234 | 40 => 460 | n => n, fun | 23 => 28 | 25 => 3 | 3 => 3 | 32 => 195 | 22 => 28 | 0 => 0 | 44 => 422 | 46 => 216 | 4 => 4 | 36 => 416 | 35 => 415 | 41 => 273 | 5 => 5 | 9 => 9 | 53 => 482 | 57 => 486 | 63 => 512 | 64 => 513 | n => n, fun | n => n⟩
theorem Tryz.sortA : Go.Proofs.SlLaysM.n5 Tryz.prog Tryz.sortA_ren := {
  mixed := by kernel_rfl
  f5 := ⟨Tryz.f323.name, by decide, Tryz.func323.trans (congrArg some (by kernel_rfl))⟩
  f7 := ⟨Tryz.f410.name, by decide, Tryz.func410.trans (congrArg some (by kernel_rfl))⟩
  f8 := Tryz.func233.trans (congrArg some (by kernel_rfl))
  f10 := ⟨Tryz.f442.name, by decide, Tryz.func442.trans (congrArg some (by kernel_rfl))⟩
  f11 := ⟨Tryz.f443.name, by decide, Tryz.func443.trans (congrArg some (by kernel_rfl))⟩
  f12 := ⟨Tryz.f444.name, by decide, Tryz.func444.trans (congrArg some (by kernel_rfl))⟩
  f13 := ⟨Tryz.f445.name, by decide, Tryz.func445.trans (congrArg some (by kernel_rfl))⟩
  f14 := ⟨Tryz.f446.name, by decide, Tryz.func446.trans (congrArg some (by kernel_rfl))⟩
  f15 := ⟨Tryz.f447.name, by decide, Tryz.func447.trans (congrArg some (by kernel_rfl))⟩
  f16 := ⟨Tryz.f448.name, by decide, Tryz.func448.trans (congrArg some (by kernel_rfl))⟩
  f17 := ⟨Tryz.f449.name, by decide, Tryz.func449.trans (congrArg some (by kernel_rfl))⟩
  f18 := ⟨Tryz.f450.name, by decide, Tryz.func450.trans (congrArg some (by kernel_rfl))⟩
  f19 := Tryz.func333.trans (congrArg some (by kernel_rfl))
  f20 := Tryz.func291.trans (congrArg some (by kernel_rfl))
  f30 := ⟨Tryz.f457.name, by decide, Tryz.func457.trans (congrArg some (by kernel_rfl))⟩
  f31 := Tryz.func412.trans (congrArg some (by kernel_rfl))
  f32 := Tryz.func413.trans (congrArg some (by kernel_rfl))
  f33 := ⟨Tryz.f458.name, by decide, Tryz.func458.trans (congrArg some (by kernel_rfl))⟩
  f34 := ⟨Tryz.f459.name, by decide, Tryz.func459.trans (congrArg some (by kernel_rfl))⟩
  f35 := ⟨Tryz.f234.name, by decide, Tryz.func234.trans (congrArg some (by kernel_rfl))⟩
  f40 := ⟨Tryz.f460.name, by decide, Tryz.func460.trans (congrArg some (by kernel_rfl))⟩
  t0 := Tryz.underlying0
  a0 := Tryz.isAgg0
  z0 := Tryz.sizeOf0
  v0 := Tryz.zeroValue0
  t3 := Tryz.underlying3
  a3 := Tryz.isAgg3
  z3 := Tryz.sizeOf3
  v3 := Tryz.zeroValue3
  t4 := Tryz.underlying4
  a4 := Tryz.isAgg4
  z4 := Tryz.sizeOf4
  v4 := Tryz.zeroValue4
  t5 := Tryz.underlying5
  a5 := Tryz.isAgg5
  z5 := Tryz.sizeOf5
  v5 := Tryz.zeroValue5
  t9 := Tryz.underlying9
  a9 := Tryz.isAgg9
  z9 := Tryz.sizeOf9
  v9 := Tryz.zeroValue9
  t22 := Tryz.underlying28
  a22 := Tryz.isAgg28
  z22 := Tryz.sizeOf28
  v22 := Tryz.zeroValue28
  t23 := Tryz.underlying28
  a23 := Tryz.isAgg28
  z23 := Tryz.sizeOf28
  v23 := Tryz.zeroValue28
  t25 := Tryz.underlying3
  a25 := Tryz.isAgg3
  z25 := Tryz.sizeOf3
  v25 := Tryz.zeroValue3
  t32 := Tryz.underlying195
  a32 := Tryz.isAgg195
  z32 := Tryz.sizeOf195
  v32 := Tryz.zeroValue195
  t35 := Tryz.underlying415
  a35 := Tryz.isAgg415
  z35 := Tryz.sizeOf415
  v35 := Tryz.zeroValue415
  t36 := Tryz.underlying416
  a36 := Tryz.isAgg416
  z36 := Tryz.sizeOf416
  v36 := Tryz.zeroValue416
  t41 := Tryz.underlying273
  a41 := Tryz.isAgg273
  z41 := Tryz.sizeOf273
  v41 := Tryz.zeroValue273
  t44 := Tryz.underlying422
  a44 := Tryz.isAgg422
  z44 := Tryz.sizeOf422
  v44 := Tryz.zeroValue422
  t46 := Tryz.underlying216
  a46 := Tryz.isAgg216
  z46 := Tryz.sizeOf216
  v46 := Tryz.zeroValue216
  t53 := Tryz.underlying482
  a53 := Tryz.isAgg482
  z53 := Tryz.sizeOf482
  v53 := Tryz.zeroValue482
  t57 := Tryz.underlying486
  a57 := Tryz.isAgg486
  z57 := Tryz.sizeOf486
  v57 := Tryz.zeroValue486
  t63 := Tryz.underlying512
  a63 := Tryz.isAgg512
  z63 := Tryz.sizeOf512
  v63 := Tryz.zeroValue512
  t64 := Tryz.underlying513
  a64 := Tryz.isAgg513
  z64 := Tryz.sizeOf513
  v64 := Tryz.zeroValue513 }
end Go.Proofs
