/-
  DERIVED: THE SHELF's CONTRACTS AT THIS DUMP, IN PLAIN WORDS (tools/lay-plain.mjs out of 'YtbmbakmhnimkfaaGreatShelf.lean', which tools/lay-shelf.mjs wrote): THE SAME DECLARATIONS UNDER THE SAME NAMES: 'import', 'namespace', 'open', 'def', 'theorem' AND NOTHING ELSE: no command of the shelf's: FOR A HAND-IN. Each laying: the table of numbers ('.._ren') and one theorem, a field a fact of the dump's own or the kernel's comparison; each contract: ONE APPLICATION.
-/
import Derived.Shelf.SlIterI.Nil
import Derived.Shelf.SortM.Plain
import Derived.Shelf.SortM.SortNone
import Derived.Ground.GgzProg
import Derived.Ground.SlgmProg
import Derived.Test.YtbmbakmhnimkfaaGreatProg
set_option linter.unusedSimpArgs false
set_option linter.unusedVariables false
namespace Go.Proofs
open Go.Shelf
def Tryz.keysA_ren : Go.Shelf.Ren := ⟨fun | 7 => 326 | 10 => 402 | n => n, fun | 23 => 327 | 26 => 3 | 3 => 115 | 28 => 440 | 0 => 0 | 27 => 439 | 33 => 218 | 4 => 4 | n => n, fun | n => n⟩
theorem Tryz.keysA : Go.Proofs.SlLaysZI.n7 Tryz.prog Tryz.keysA_ren := {
  mixed := by kernel_rfl
  f7 := ⟨Tryz.f326.name, by decide, Tryz.func326.trans (congrArg some (by kernel_rfl))⟩
  f10 := ⟨Tryz.f402.name, by decide, Tryz.func402.trans (congrArg some (by kernel_rfl))⟩
  t0 := Tryz.underlying0
  a0 := Tryz.isAgg0
  z0 := Tryz.sizeOf0
  v0 := Tryz.zeroValue0
  t4 := Tryz.underlying4
  a4 := Tryz.isAgg4
  z4 := Tryz.sizeOf4
  v4 := Tryz.zeroValue4
  t23 := Tryz.underlying327
  a23 := Tryz.isAgg327
  z23 := Tryz.sizeOf327
  v23 := Tryz.zeroValue327
  t26 := Tryz.underlying3
  a26 := Tryz.isAgg3
  z26 := Tryz.sizeOf3
  v26 := Tryz.zeroValue3
  t27 := Tryz.underlying439
  a27 := Tryz.isAgg439
  z27 := Tryz.sizeOf439
  v27 := Tryz.zeroValue439
  t28 := Tryz.underlying440
  a28 := Tryz.isAgg440
  z28 := Tryz.sizeOf440
  v28 := Tryz.zeroValue440
  t33 := Tryz.underlying218
  a33 := Tryz.isAgg218
  z33 := Tryz.sizeOf218
  v33 := Tryz.zeroValue218 }
def Tryz.sortedA_ren : Go.Shelf.Ren := ⟨fun | 6 => 325 | 8 => 400 | 9 => 401 | 11 => 465 | 13 => 328 | 12 => 466 | 23 => 411 | 24 => 390 | 14 => 486 | 15 => 487 | 16 => 488 | 17 => 489 | 18 => 490 | 19 => 491 | 20 => 492 | 21 => 493 | 22 => 494 | 25 => 497 | 26 => 468 | 27 => 469 | 28 => 498 | 29 => 499 | 30 => 329 | 31 => 500 | n => n, fun | 26 => 3 | 28 => 440 | 24 => 173 | 0 => 0 | 3 => 3 | 37 => 112 | 48 => 411 | 50 => 193 | 4 => 4 | 40 => 504 | 39 => 503 | 45 => 477 | 5 => 5 | 9 => 9 | 51 => 553 | 55 => 557 | 57 => 576 | 58 => 577 | 33 => 218 | n => n, fun | n => n⟩
theorem Tryz.sortedA : Go.Proofs.SlLaysZI.n6 Tryz.prog Tryz.sortedA_ren := {
  mixed := by kernel_rfl
  f6 := ⟨Tryz.f325.name, by decide, Tryz.func325.trans (congrArg some (by kernel_rfl))⟩
  f8 := ⟨Tryz.f400.name, by decide, Tryz.func400.trans (congrArg some (by kernel_rfl))⟩
  f11 := ⟨Tryz.f465.name, by decide, Tryz.func465.trans (congrArg some (by kernel_rfl))⟩
  t0 := Tryz.underlying0
  a0 := Tryz.isAgg0
  z0 := Tryz.sizeOf0
  v0 := Tryz.zeroValue0
  t24 := Tryz.underlying173
  a24 := Tryz.isAgg173
  z24 := Tryz.sizeOf173
  v24 := Tryz.zeroValue173
  t26 := Tryz.underlying3
  a26 := Tryz.isAgg3
  z26 := Tryz.sizeOf3
  v26 := Tryz.zeroValue3
  t28 := Tryz.underlying440
  a28 := Tryz.isAgg440
  z28 := Tryz.sizeOf440
  v28 := Tryz.zeroValue440
  i26 := by kernel_rfl }
def Tryz.sortA_ren : Go.Shelf.Ren := ⟨fun | 5 => 401 | 8 => 328 | 7 => 466 | 19 => 411 | 20 => 390 | 10 => 486 | 11 => 487 | 12 => 488 | 13 => 489 | 14 => 490 | 15 => 491 | 16 => 492 | 17 => 493 | 18 => 494 | 30 => 497 | 31 => 468 | 32 => 469 | 33 => 498 | 34 => 499 | 35 => 329 | 40 => 500 | n => n, fun | 23 => 173 | 25 => 3 | 3 => 3 | 32 => 112 | 22 => 173 | 0 => 0 | 44 => 411 | 46 => 193 | 4 => 4 | 36 => 504 | 35 => 503 | 41 => 477 | 5 => 5 | 9 => 9 | 53 => 553 | 57 => 557 | 63 => 576 | 64 => 577 | n => n, fun | n => n⟩
theorem Tryz.sortA : Go.Proofs.SlLaysM.n5 Tryz.prog Tryz.sortA_ren := {
  mixed := by kernel_rfl
  f5 := ⟨Tryz.f401.name, by decide, Tryz.func401.trans (congrArg some (by kernel_rfl))⟩
  f7 := ⟨Tryz.f466.name, by decide, Tryz.func466.trans (congrArg some (by kernel_rfl))⟩
  f8 := Tryz.func328.trans (congrArg some (by kernel_rfl))
  f10 := ⟨Tryz.f486.name, by decide, Tryz.func486.trans (congrArg some (by kernel_rfl))⟩
  f11 := ⟨Tryz.f487.name, by decide, Tryz.func487.trans (congrArg some (by kernel_rfl))⟩
  f12 := ⟨Tryz.f488.name, by decide, Tryz.func488.trans (congrArg some (by kernel_rfl))⟩
  f13 := ⟨Tryz.f489.name, by decide, Tryz.func489.trans (congrArg some (by kernel_rfl))⟩
  f14 := ⟨Tryz.f490.name, by decide, Tryz.func490.trans (congrArg some (by kernel_rfl))⟩
  f15 := ⟨Tryz.f491.name, by decide, Tryz.func491.trans (congrArg some (by kernel_rfl))⟩
  f16 := ⟨Tryz.f492.name, by decide, Tryz.func492.trans (congrArg some (by kernel_rfl))⟩
  f17 := ⟨Tryz.f493.name, by decide, Tryz.func493.trans (congrArg some (by kernel_rfl))⟩
  f18 := ⟨Tryz.f494.name, by decide, Tryz.func494.trans (congrArg some (by kernel_rfl))⟩
  f19 := Tryz.func411.trans (congrArg some (by kernel_rfl))
  f20 := Tryz.func390.trans (congrArg some (by kernel_rfl))
  f30 := ⟨Tryz.f497.name, by decide, Tryz.func497.trans (congrArg some (by kernel_rfl))⟩
  f31 := Tryz.func468.trans (congrArg some (by kernel_rfl))
  f32 := Tryz.func469.trans (congrArg some (by kernel_rfl))
  f33 := ⟨Tryz.f498.name, by decide, Tryz.func498.trans (congrArg some (by kernel_rfl))⟩
  f34 := ⟨Tryz.f499.name, by decide, Tryz.func499.trans (congrArg some (by kernel_rfl))⟩
  f35 := ⟨Tryz.f329.name, by decide, Tryz.func329.trans (congrArg some (by kernel_rfl))⟩
  f40 := ⟨Tryz.f500.name, by decide, Tryz.func500.trans (congrArg some (by kernel_rfl))⟩
  t0 := Tryz.underlying0
  a0 := Tryz.isAgg0
  z0 := Tryz.sizeOf0
  v0 := Tryz.zeroValue0
  t3 := Tryz.underlying3
  a3 := Tryz.isAgg3
  z3 := Tryz.sizeOf3
  v3 := Tryz.zeroValue3
  t4 := Tryz.underlying4
  a4 := Tryz.isAgg4
  z4 := Tryz.sizeOf4
  v4 := Tryz.zeroValue4
  t5 := Tryz.underlying5
  a5 := Tryz.isAgg5
  z5 := Tryz.sizeOf5
  v5 := Tryz.zeroValue5
  t9 := Tryz.underlying9
  a9 := Tryz.isAgg9
  z9 := Tryz.sizeOf9
  v9 := Tryz.zeroValue9
  t22 := Tryz.underlying173
  a22 := Tryz.isAgg173
  z22 := Tryz.sizeOf173
  v22 := Tryz.zeroValue173
  t23 := Tryz.underlying173
  a23 := Tryz.isAgg173
  z23 := Tryz.sizeOf173
  v23 := Tryz.zeroValue173
  t25 := Tryz.underlying3
  a25 := Tryz.isAgg3
  z25 := Tryz.sizeOf3
  v25 := Tryz.zeroValue3
  t32 := Tryz.underlying112
  a32 := Tryz.isAgg112
  z32 := Tryz.sizeOf112
  v32 := Tryz.zeroValue112
  t35 := Tryz.underlying503
  a35 := Tryz.isAgg503
  z35 := Tryz.sizeOf503
  v35 := Tryz.zeroValue503
  t36 := Tryz.underlying504
  a36 := Tryz.isAgg504
  z36 := Tryz.sizeOf504
  v36 := Tryz.zeroValue504
  t41 := Tryz.underlying477
  a41 := Tryz.isAgg477
  z41 := Tryz.sizeOf477
  v41 := Tryz.zeroValue477
  t44 := Tryz.underlying411
  a44 := Tryz.isAgg411
  z44 := Tryz.sizeOf411
  v44 := Tryz.zeroValue411
  t46 := Tryz.underlying193
  a46 := Tryz.isAgg193
  z46 := Tryz.sizeOf193
  v46 := Tryz.zeroValue193
  t53 := Tryz.underlying553
  a53 := Tryz.isAgg553
  z53 := Tryz.sizeOf553
  v53 := Tryz.zeroValue553
  t57 := Tryz.underlying557
  a57 := Tryz.isAgg557
  z57 := Tryz.sizeOf557
  v57 := Tryz.zeroValue557
  t63 := Tryz.underlying576
  a63 := Tryz.isAgg576
  z63 := Tryz.sizeOf576
  v63 := Tryz.zeroValue576
  t64 := Tryz.underlying577
  a64 := Tryz.isAgg577
  z64 := Tryz.sizeOf577
  v64 := Tryz.zeroValue577 }
end Go.Proofs
