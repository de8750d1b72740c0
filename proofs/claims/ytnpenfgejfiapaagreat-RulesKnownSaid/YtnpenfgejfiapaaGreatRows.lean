/-
  No cell of these rows narrows 'for every input' (looked for: loops, veiled, ifaces, maps, wideKeys, modest, calm, conditions, laid).
  DERIVED. THE GIVEN ROWS OF THIS SEAT. 3 by the template 'for every input the law returns true; each argument reads behind the call as it read before'; 0 by the template 'total and deterministic' (their statements: YtnpenfgejfiapaaGreatTotals.lean).
  GIVEN WITH THE SEED: the statements are not yours to turn. If you find one false, say at which input.
  Laid BY PROGRAM, IN A SANDBOX (cutbox-rows.mjs): the forced cells as the released guide's own fill.sh prints them over the translation 118bdbebe79ebead… (all of the seat's roots in one cut). By AI agents, Wed Nov 11 2026. No macro, syntax, notation, axiom, sorry.
-/
import Derived.Test.YtnpenfgejfiapaaGreatChecked
import GoSem.Claim
import GoSem.ClaimJoined
import GoSem.ClaimMapViews
import Derived.JoinedTies
import Derived.KernelRfl
namespace Go.Proofs.YtnpenfgejfiapaaGreat
/- THE CELL 'sum', in the pinned program and in every row, IS THE sha256 OF THE DUMP (.gsa) THAT YtnpenfgejfiapaaGreatProg.lean LOADS. Nothing in Lean hashes anything: it is a label: what it is worth is what the hold of that sum in a sandbox is worth. -/
noncomputable def Tryz.pinned : Pinned := { name := "ytnpenfgejfiapaagreat", sum := "118bdbebe79ebead0521b9d1917516ddb850ba4764a9876b3cc9707f84e80691", checked := Tryz.checked }
namespace Rows
def none {H : Type} : Left H := { results := [], args := [] }

/-- 'bagatellelaw08.RulesRefuse': WHATEVER THE INPUT: true; the input reads as it did. -/
def rulesRefuseSpec : ChangeSpec := { name := "rulesRefuse", fn := fun _ => fun
  | [d1, d2, d3] => { results := [.lit (.bool true)], args := [d1, d2, d3] }
  | _ => none }
def rulesRefuseRow : OpenClaim := { program := "ytnpenfgejfiapaagreat", sum := "118bdbebe79ebead0521b9d1917516ddb850ba4764a9876b3cc9707f84e80691", func := "bagatelle/bagatellelaw08.RulesRefuse", spec := "rulesRefuse", inPlace := ["math/bits.Add64", "math/bits.Sub64"], unfollowed := true, recurses := true, named := ["math/bits.divideError", "math/bits.overflowError"], apart := false }
def RulesRefuseSaid : Prop := rulesRefuseRow.holds Tryz.pinned (OpenSpec.ofChange rulesRefuseSpec)

/-- ITS FALSE NEIGHBOUR: 'it returns false'. Refute it at one input. -/
def rulesRefuseWrong : ChangeSpec := { name := "rulesRefuse", fn := fun _ => fun
  | [d1, d2, d3] => { results := [.lit (.bool false)], args := [d1, d2, d3] }
  | _ => none }
def RulesRefuseWrongFalsely : Prop := rulesRefuseRow.holds Tryz.pinned (OpenSpec.ofChange rulesRefuseWrong)

/-- 'bagatellelaw08.RulesKnown': WHATEVER THE INPUT: true; the input reads as it did. -/
def rulesKnownSpec : ChangeSpec := { name := "rulesKnown", fn := fun _ => fun
  | [] => { results := [.lit (.bool true)], args := [] }
  | _ => none }
def rulesKnownRow : OpenClaim := { program := "ytnpenfgejfiapaagreat", sum := "118bdbebe79ebead0521b9d1917516ddb850ba4764a9876b3cc9707f84e80691", func := "bagatelle/bagatellelaw08.RulesKnown", spec := "rulesKnown", inPlace := ["math/bits.Add64", "math/bits.Sub64"], unfollowed := true, recurses := true, named := ["math/bits.divideError", "math/bits.overflowError"], apart := false }
def RulesKnownSaid : Prop := rulesKnownRow.holds Tryz.pinned (OpenSpec.ofChange rulesKnownSpec)

/-- ITS FALSE NEIGHBOUR: 'it returns false'. Refute it at one input. -/
def rulesKnownWrong : ChangeSpec := { name := "rulesKnown", fn := fun _ => fun
  | [] => { results := [.lit (.bool false)], args := [] }
  | _ => none }
def RulesKnownWrongFalsely : Prop := rulesKnownRow.holds Tryz.pinned (OpenSpec.ofChange rulesKnownWrong)

/-- 'bagatellelaw08.RulesSessions': WHATEVER THE INPUT: true; the input reads as it did. -/
def rulesSessionsSpec : ChangeSpec := { name := "rulesSessions", fn := fun _ => fun
  | [d1, d2] => { results := [.lit (.bool true)], args := [d1, d2] }
  | _ => none }
def rulesSessionsRow : OpenClaim := { program := "ytnpenfgejfiapaagreat", sum := "118bdbebe79ebead0521b9d1917516ddb850ba4764a9876b3cc9707f84e80691", func := "bagatelle/bagatellelaw08.RulesSessions", spec := "rulesSessions", inPlace := ["math/bits.Add64", "math/bits.Sub64"], unfollowed := true, recurses := true, named := ["math/bits.divideError", "math/bits.overflowError"], apart := false }
def RulesSessionsSaid : Prop := rulesSessionsRow.holds Tryz.pinned (OpenSpec.ofChange rulesSessionsSpec)

/-- ITS FALSE NEIGHBOUR: 'it returns false'. Refute it at one input. -/
def rulesSessionsWrong : ChangeSpec := { name := "rulesSessions", fn := fun _ => fun
  | [d1, d2] => { results := [.lit (.bool false)], args := [d1, d2] }
  | _ => none }
def RulesSessionsWrongFalsely : Prop := rulesSessionsRow.holds Tryz.pinned (OpenSpec.ofChange rulesSessionsWrong)

/- THE SECOND FORM. 'bulk': how many values and letters a reading holds, each counted each time it is reached (what is shared counts as often as it is met; a slice's spare places count too). A statement '..UptoSaid' is the law's where the arguments, and the package variables that the reading takes, are together of bulk at most 1048576: NARROWER than '..Said'. Prove '..Said' where nothing that the law and all that it calls make is longer than what came in: it says more and counts as full. Else prove '..UptoSaid'. A law counts once. -/
mutual
def uptoBulk {H : Type} : DataW H → Nat
  | .lit (.string bytes) => bytes.length + 1
  | .lit _ => 1
  | .nil => 1
  | .ptr d => uptoBulk d + 1
  | .slice elems spare => uptoBulkAll elems + uptoBulkAll spare + 1
  | .agg parts => uptoBulkAll parts + 1
  | .iface _ d => uptoBulk d + 1
  | .map entries => uptoBulkEntries entries + 1
  | .held _ => 1
def uptoBulkAll {H : Type} : List (DataW H) → Nat
  | [] => 0
  | d :: r => uptoBulk d + uptoBulkAll r
def uptoBulkEntries {H : Type} : List (Lit × DataW H) → Nat
  | [] => 0
  | x :: r => uptoBulkEntry x + uptoBulkEntries r
def uptoBulkEntry {H : Type} : Lit × DataW H → Nat
  | (.string bytes, d) => bytes.length + uptoBulk d + 1
  | (_, d) => uptoBulk d + 1
 end
def uptoSmall : (H : Type) → List (DataW H) → Bool := fun _ ds => decide (uptoBulkAll ds ≤ 1048576)
def OpenSpec.upto (s : _root_.Go.ChangeSpec) : _root_.Go.OpenSpec := { _root_.Go.OpenSpec.ofChange s with cond := some uptoSmall }

/-- 'bagatellelaw08.RulesRefuse', WHERE WHAT IT READS IS OF BULK AT MOST 1048576: true; the input reads as it did. -/
def rulesRefuseUptoRow : OpenClaim := { program := "ytnpenfgejfiapaagreat", sum := "118bdbebe79ebead0521b9d1917516ddb850ba4764a9876b3cc9707f84e80691", func := "bagatelle/bagatellelaw08.RulesRefuse", spec := "rulesRefuse", inPlace := ["math/bits.Add64", "math/bits.Sub64"], unfollowed := true, recurses := true, named := ["math/bits.divideError", "math/bits.overflowError"], apart := false, narrowed := true }
def RulesRefuseUptoSaid : Prop := rulesRefuseUptoRow.holds Tryz.pinned (OpenSpec.upto rulesRefuseSpec)

/-- 'bagatellelaw08.RulesKnown', WHERE WHAT IT READS IS OF BULK AT MOST 1048576: true; the input reads as it did. -/
def rulesKnownUptoRow : OpenClaim := { program := "ytnpenfgejfiapaagreat", sum := "118bdbebe79ebead0521b9d1917516ddb850ba4764a9876b3cc9707f84e80691", func := "bagatelle/bagatellelaw08.RulesKnown", spec := "rulesKnown", inPlace := ["math/bits.Add64", "math/bits.Sub64"], unfollowed := true, recurses := true, named := ["math/bits.divideError", "math/bits.overflowError"], apart := false, narrowed := true }
def RulesKnownUptoSaid : Prop := rulesKnownUptoRow.holds Tryz.pinned (OpenSpec.upto rulesKnownSpec)

/-- 'bagatellelaw08.RulesSessions', WHERE WHAT IT READS IS OF BULK AT MOST 1048576: true; the input reads as it did. -/
def rulesSessionsUptoRow : OpenClaim := { program := "ytnpenfgejfiapaagreat", sum := "118bdbebe79ebead0521b9d1917516ddb850ba4764a9876b3cc9707f84e80691", func := "bagatelle/bagatellelaw08.RulesSessions", spec := "rulesSessions", inPlace := ["math/bits.Add64", "math/bits.Sub64"], unfollowed := true, recurses := true, named := ["math/bits.divideError", "math/bits.overflowError"], apart := false, narrowed := true }
def RulesSessionsUptoSaid : Prop := rulesSessionsUptoRow.holds Tryz.pinned (OpenSpec.upto rulesSessionsSpec)

end Rows
end Go.Proofs.YtnpenfgejfiapaaGreat
