/- What the engine asks of the program. -/
import Derived.Test.YtbmbakmhnimkfaaGreatProg
import Derived.Test.YtbmbakmhnimkfaaGreatEngX5
import Derived.KernelRfl
set_option linter.unusedSimpArgs false
set_option linter.unusedVariables false
namespace Go.Proofs.YtbmbakmhnimkfaaGreat
open Go Go.Eng

theorem names : noName Tryz.prog.funcs.toList = true := by kernel_rfl

theorem nums (f : FuncId) (fn : Func) (h : Tryz.prog.funcs[f]? = some fn) : (fn.name == "runtime.NumGoroutine") = false :=
  noName_all names fn (by
    have h1 := Array.mem_of_getElem? h
    exact Array.mem_toList_iff.2 h1)

theorem addIs : (Tryz.prog.funcs[252]?).isSome = true := by kernel_rfl
theorem addBody : ((Tryz.prog.funcs[252]?).get addIs).body.isNone = true := by kernel_rfl
theorem addNext : Extern.findNext ((Tryz.prog.funcs[252]?).get addIs) = none := by kernel_rfl
theorem addFind : Extern.find ((Tryz.prog.funcs[252]?).get addIs) = some (fun args => do
      let (x, y, c) ← Extern.MathBitsCarry.three "Add64" args
      pure (Extern.MathBitsCarry.pair ((x + y + c) % Extern.MathBitsCarry.m64) ((x + y + c) / Extern.MathBitsCarry.m64))) := by kernel_rfl
theorem subIs : (Tryz.prog.funcs[254]?).isSome = true := by kernel_rfl
theorem subBody : ((Tryz.prog.funcs[254]?).get subIs).body.isNone = true := by kernel_rfl
theorem subNext : Extern.findNext ((Tryz.prog.funcs[254]?).get subIs) = none := by kernel_rfl
theorem subFind : Extern.find ((Tryz.prog.funcs[254]?).get subIs) = some (fun args => do
      let (x, y, b) ← Extern.MathBitsCarry.three "Sub64" args
      pure (Extern.MathBitsCarry.pair ((x + Extern.MathBitsCarry.m64 - y - b) % Extern.MathBitsCarry.m64) (if x < y + b then 1 else 0))) := by kernel_rfl
theorem cloneIs : (Tryz.prog.funcs[367]?).isSome = true := by kernel_rfl
theorem cloneBody : ((Tryz.prog.funcs[367]?).get cloneIs).body.isNone = true := by kernel_rfl
theorem cloneNext : Extern.findNext ((Tryz.prog.funcs[367]?).get cloneIs) = none := by kernel_rfl
theorem cloneFind : Extern.find ((Tryz.prog.funcs[367]?).get cloneIs) = some Extern.MapsClone.clone := by kernel_rfl
theorem mixed : Tryz.prog.follows .mixedOrders = true := by kernel_rfl

theorem pok : POK Tryz.prog ⟨252, 254, 367⟩ :=
  ⟨nums, add_run (Option.some_get addIs).symm (nums _ _ (Option.some_get addIs).symm) addBody addNext addFind,
   sub_run (Option.some_get subIs).symm (nums _ _ (Option.some_get subIs).symm) subBody subNext subFind, mixed,
   fun _ _ => clone_run (Option.some_get cloneIs).symm (nums _ _ (Option.some_get cloneIs).symm) cloneBody cloneNext cloneFind⟩
end Go.Proofs.YtbmbakmhnimkfaaGreat
