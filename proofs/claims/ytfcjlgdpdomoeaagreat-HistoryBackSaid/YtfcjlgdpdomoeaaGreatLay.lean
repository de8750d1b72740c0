/-
  DERIVED: THE SHELF's CONTRACTS AT THIS DUMP, IN PLAIN WORDS (tools/lay-plain.mjs out of 'YtfcjlgdpdomoeaaGreatShelf.lean', which tools/lay-shelf.mjs wrote): THE SAME DECLARATIONS UNDER THE SAME NAMES: 'import', 'namespace', 'open', 'def', 'theorem' AND NOTHING ELSE: no command of the shelf's: FOR A HAND-IN. Each laying: the table of numbers ('.._ren') and one theorem, a field a fact of the dump's own or the kernel's comparison; each contract: ONE APPLICATION.
-/
import Derived.Shelf.SlIterI.Nil
import Derived.Shelf.SortM.Plain
import Derived.Shelf.SortM.SortNone
import Derived.Ground.GgzProg
import Derived.Ground.SlgmProg
import Derived.Test.YtfcjlgdpdomoeaaGreatProg
set_option linter.unusedSimpArgs false
set_option linter.unusedVariables false
namespace Go.Proofs
open Go.Shelf
def Tryz.keysA_ren : Go.Shelf.Ren := ⟨fun | 7 => 325 | 10 => 373 | n => n, fun | 23 => 309 | 26 => 3 | 3 => 115 | 28 => 472 | 0 => 0 | 27 => 471 | 33 => 246 | 4 => 4 | n => n, fun | n => n⟩
theorem Tryz.keysA : Go.Proofs.SlLaysZI.n7 Tryz.prog Tryz.keysA_ren := {
  mixed := by kernel_rfl
  f7 := ⟨Tryz.f325.name, by decide, Tryz.func325.trans (congrArg some (by kernel_rfl))⟩
  f10 := ⟨Tryz.f373.name, by decide, Tryz.func373.trans (congrArg some (by kernel_rfl))⟩
  t0 := Tryz.underlying0
  a0 := Tryz.isAgg0
  z0 := Tryz.sizeOf0
  v0 := Tryz.zeroValue0
  t4 := Tryz.underlying4
  a4 := Tryz.isAgg4
  z4 := Tryz.sizeOf4
  v4 := Tryz.zeroValue4
  t23 := Tryz.underlying309
  a23 := Tryz.isAgg309
  z23 := Tryz.sizeOf309
  v23 := Tryz.zeroValue309
  t26 := Tryz.underlying3
  a26 := Tryz.isAgg3
  z26 := Tryz.sizeOf3
  v26 := Tryz.zeroValue3
  t27 := Tryz.underlying471
  a27 := Tryz.isAgg471
  z27 := Tryz.sizeOf471
  v27 := Tryz.zeroValue471
  t28 := Tryz.underlying472
  a28 := Tryz.isAgg472
  z28 := Tryz.sizeOf472
  v28 := Tryz.zeroValue472
  t33 := Tryz.underlying246
  a33 := Tryz.isAgg246
  z33 := Tryz.sizeOf246
  v33 := Tryz.zeroValue246 }
def Tryz.sortedA_ren : Go.Shelf.Ren := ⟨fun | 6 => 324 | 8 => 371 | 9 => 372 | 11 => 429 | 13 => 327 | 12 => 430 | 23 => 382 | 24 => 158 | 14 => 449 | 15 => 450 | 16 => 451 | 17 => 452 | 18 => 453 | 19 => 454 | 20 => 455 | 21 => 456 | 22 => 457 | 25 => 461 | 26 => 432 | 27 => 433 | 28 => 462 | 29 => 463 | 30 => 328 | 31 => 464 | n => n, fun | 26 => 3 | 28 => 472 | 24 => 40 | 0 => 0 | 3 => 3 | 37 => 99 | 48 => 348 | 50 => 67 | 4 => 4 | 40 => 528 | 39 => 527 | 45 => 374 | 5 => 5 | 9 => 9 | 51 => 574 | 55 => 578 | 57 => 596 | 58 => 597 | 33 => 246 | n => n, fun | n => n⟩
theorem Tryz.sortedA : Go.Proofs.SlLaysZI.n6 Tryz.prog Tryz.sortedA_ren := {
  mixed := by kernel_rfl
  f6 := ⟨Tryz.f324.name, by decide, Tryz.func324.trans (congrArg some (by kernel_rfl))⟩
  f8 := ⟨Tryz.f371.name, by decide, Tryz.func371.trans (congrArg some (by kernel_rfl))⟩
  f11 := ⟨Tryz.f429.name, by decide, Tryz.func429.trans (congrArg some (by kernel_rfl))⟩
  t0 := Tryz.underlying0
  a0 := Tryz.isAgg0
  z0 := Tryz.sizeOf0
  v0 := Tryz.zeroValue0
  t24 := Tryz.underlying40
  a24 := Tryz.isAgg40
  z24 := Tryz.sizeOf40
  v24 := Tryz.zeroValue40
  t26 := Tryz.underlying3
  a26 := Tryz.isAgg3
  z26 := Tryz.sizeOf3
  v26 := Tryz.zeroValue3
  t28 := Tryz.underlying472
  a28 := Tryz.isAgg472
  z28 := Tryz.sizeOf472
  v28 := Tryz.zeroValue472
  i26 := by kernel_rfl }
def Tryz.sortA_ren : Go.Shelf.Ren := ⟨fun | 5 => 372 | 8 => 327 | 7 => 430 | 19 => 382 | 20 => 158 | 10 => 449 | 11 => 450 | 12 => 451 | 13 => 452 | 14 => 453 | 15 => 454 | 16 => 455 | 17 => 456 | 18 => 457 | 30 => 461 | 31 => 432 | 32 => 433 | 33 => 462 | 34 => 463 | 35 => 328 | 40 => 464 | n => n, fun | 23 => 40 | 25 => 3 | 3 => 3 | 32 => 99 | 22 => 40 | 0 => 0 | 44 => 348 | 46 => 67 | 4 => 4 | 36 => 528 | 35 => 527 | 41 => 374 | 5 => 5 | 9 => 9 | 53 => 574 | 57 => 578 | 63 => 596 | 64 => 597 | n => n, fun | n => n⟩
theorem Tryz.sortA : Go.Proofs.SlLaysM.n5 Tryz.prog Tryz.sortA_ren := {
  mixed := by kernel_rfl
  f5 := ⟨Tryz.f372.name, by decide, Tryz.func372.trans (congrArg some (by kernel_rfl))⟩
  f7 := ⟨Tryz.f430.name, by decide, Tryz.func430.trans (congrArg some (by kernel_rfl))⟩
  f8 := Tryz.func327.trans (congrArg some (by kernel_rfl))
  f10 := ⟨Tryz.f449.name, by decide, Tryz.func449.trans (congrArg some (by kernel_rfl))⟩
  f11 := ⟨Tryz.f450.name, by decide, Tryz.func450.trans (congrArg some (by kernel_rfl))⟩
  f12 := ⟨Tryz.f451.name, by decide, Tryz.func451.trans (congrArg some (by kernel_rfl))⟩
  f13 := ⟨Tryz.f452.name, by decide, Tryz.func452.trans (congrArg some (by kernel_rfl))⟩
  f14 := ⟨Tryz.f453.name, by decide, Tryz.func453.trans (congrArg some (by kernel_rfl))⟩
  f15 := ⟨Tryz.f454.name, by decide, Tryz.func454.trans (congrArg some (by kernel_rfl))⟩
  f16 := ⟨Tryz.f455.name, by decide, Tryz.func455.trans (congrArg some (by kernel_rfl))⟩
  f17 := ⟨Tryz.f456.name, by decide, Tryz.func456.trans (congrArg some (by kernel_rfl))⟩
  f18 := ⟨Tryz.f457.name, by decide, Tryz.func457.trans (congrArg some (by kernel_rfl))⟩
  f19 := Tryz.func382.trans (congrArg some (by kernel_rfl))
  f20 := Tryz.func158.trans (congrArg some (by kernel_rfl))
  f30 := ⟨Tryz.f461.name, by decide, Tryz.func461.trans (congrArg some (by kernel_rfl))⟩
  f31 := Tryz.func432.trans (congrArg some (by kernel_rfl))
  f32 := Tryz.func433.trans (congrArg some (by kernel_rfl))
  f33 := ⟨Tryz.f462.name, by decide, Tryz.func462.trans (congrArg some (by kernel_rfl))⟩
  f34 := ⟨Tryz.f463.name, by decide, Tryz.func463.trans (congrArg some (by kernel_rfl))⟩
  f35 := ⟨Tryz.f328.name, by decide, Tryz.func328.trans (congrArg some (by kernel_rfl))⟩
  f40 := ⟨Tryz.f464.name, by decide, Tryz.func464.trans (congrArg some (by kernel_rfl))⟩
  t0 := Tryz.underlying0
  a0 := Tryz.isAgg0
  z0 := Tryz.sizeOf0
  v0 := Tryz.zeroValue0
  t3 := Tryz.underlying3
  a3 := Tryz.isAgg3
  z3 := Tryz.sizeOf3
  v3 := Tryz.zeroValue3
  t4 := Tryz.underlying4
  a4 := Tryz.isAgg4
  z4 := Tryz.sizeOf4
  v4 := Tryz.zeroValue4
  t5 := Tryz.underlying5
  a5 := Tryz.isAgg5
  z5 := Tryz.sizeOf5
  v5 := Tryz.zeroValue5
  t9 := Tryz.underlying9
  a9 := Tryz.isAgg9
  z9 := Tryz.sizeOf9
  v9 := Tryz.zeroValue9
  t22 := Tryz.underlying40
  a22 := Tryz.isAgg40
  z22 := Tryz.sizeOf40
  v22 := Tryz.zeroValue40
  t23 := Tryz.underlying40
  a23 := Tryz.isAgg40
  z23 := Tryz.sizeOf40
  v23 := Tryz.zeroValue40
  t25 := Tryz.underlying3
  a25 := Tryz.isAgg3
  z25 := Tryz.sizeOf3
  v25 := Tryz.zeroValue3
  t32 := Tryz.underlying99
  a32 := Tryz.isAgg99
  z32 := Tryz.sizeOf99
  v32 := Tryz.zeroValue99
  t35 := Tryz.underlying527
  a35 := Tryz.isAgg527
  z35 := Tryz.sizeOf527
  v35 := Tryz.zeroValue527
  t36 := Tryz.underlying528
  a36 := Tryz.isAgg528
  z36 := Tryz.sizeOf528
  v36 := Tryz.zeroValue528
  t41 := Tryz.underlying374
  a41 := Tryz.isAgg374
  z41 := Tryz.sizeOf374
  v41 := Tryz.zeroValue374
  t44 := Tryz.underlying348
  a44 := Tryz.isAgg348
  z44 := Tryz.sizeOf348
  v44 := Tryz.zeroValue348
  t46 := Tryz.underlying67
  a46 := Tryz.isAgg67
  z46 := Tryz.sizeOf67
  v46 := Tryz.zeroValue67
  t53 := Tryz.underlying574
  a53 := Tryz.isAgg574
  z53 := Tryz.sizeOf574
  v53 := Tryz.zeroValue574
  t57 := Tryz.underlying578
  a57 := Tryz.isAgg578
  z57 := Tryz.sizeOf578
  v57 := Tryz.zeroValue578
  t63 := Tryz.underlying596
  a63 := Tryz.isAgg596
  z63 := Tryz.sizeOf596
  v63 := Tryz.zeroValue596
  t64 := Tryz.underlying597
  a64 := Tryz.isAgg597
  z64 := Tryz.sizeOf597
  v64 := Tryz.zeroValue597 }
end Go.Proofs
