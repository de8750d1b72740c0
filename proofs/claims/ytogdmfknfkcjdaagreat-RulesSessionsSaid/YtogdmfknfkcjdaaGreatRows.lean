/-
  No cell of these rows narrows 'for every input' (looked for: loops, veiled, ifaces, maps, wideKeys, modest, calm, conditions, laid).
  DERIVED. THE GIVEN ROWS OF THIS SEAT. 9 by the template 'for every input the law returns true; each argument reads behind the call as it read before'; 0 by the template 'total and deterministic' (their statements: YtogdmfknfkcjdaaGreatTotals.lean).
  GIVEN WITH THE SEED: the statements are not yours to turn. If you find one false, say at which input.
  Laid BY PROGRAM, IN A SANDBOX (cutbox-rows.mjs): the forced cells as the released guide's own fill.sh prints them over the translation 39f63a5b68a35e66… (all of the seat's roots in one cut). By AI agents, Wed Nov 11 2026. No macro, syntax, notation, axiom, sorry.
-/
import Derived.Test.YtogdmfknfkcjdaaGreatChecked
import GoSem.Claim
import GoSem.ClaimJoined
import GoSem.ClaimMapViews
import Derived.JoinedTies
import Derived.KernelRfl
namespace Go.Proofs.YtogdmfknfkcjdaaGreat
/- THE CELL 'sum', in the pinned program and in every row, IS THE sha256 OF THE DUMP (.gsa) THAT YtogdmfknfkcjdaaGreatProg.lean LOADS. Nothing in Lean hashes anything: it is a label: what it is worth is what the hold of that sum in a sandbox is worth. -/
noncomputable def Tryz.pinned : Pinned := { name := "ytogdmfknfkcjdaagreat", sum := "39f63a5b68a35e661a04da757a617ee89a609de2036c07dcd66c0216f51150b6", checked := Tryz.checked }
namespace Rows
def none {H : Type} : Left H := { results := [], args := [] }

/-- 'bagatellelaw08.RulesSessions': WHATEVER THE INPUT: true; the input reads as it did. -/
def rulesSessionsSpec : ChangeSpec := { name := "rulesSessions", fn := fun _ => fun
  | [d1, d2] => { results := [.lit (.bool true)], args := [d1, d2] }
  | _ => none }
def rulesSessionsRow : OpenClaim := { program := "ytogdmfknfkcjdaagreat", sum := "39f63a5b68a35e661a04da757a617ee89a609de2036c07dcd66c0216f51150b6", func := "bagatelle/bagatellelaw08.RulesSessions", spec := "rulesSessions", inPlace := ["math/bits.Add64", "math/bits.Sub64"], unfollowed := true, recurses := true, named := ["math/bits.divideError", "math/bits.overflowError"], apart := false }
def RulesSessionsSaid : Prop := rulesSessionsRow.holds Tryz.pinned (OpenSpec.ofChange rulesSessionsSpec)

/-- ITS FALSE NEIGHBOUR: 'it returns false'. Refute it at one input. -/
def rulesSessionsWrong : ChangeSpec := { name := "rulesSessions", fn := fun _ => fun
  | [d1, d2] => { results := [.lit (.bool false)], args := [d1, d2] }
  | _ => none }
def RulesSessionsWrongFalsely : Prop := rulesSessionsRow.holds Tryz.pinned (OpenSpec.ofChange rulesSessionsWrong)

/-- 'bagatellelaw09.ServerSessions': WHATEVER THE INPUT: true; the input reads as it did. -/
def serverSessionsSpec : ChangeSpec := { name := "serverSessions", fn := fun _ => fun
  | [d1, d2] => { results := [.lit (.bool true)], args := [d1, d2] }
  | _ => none }
def serverSessionsRow : OpenClaim := { program := "ytogdmfknfkcjdaagreat", sum := "39f63a5b68a35e661a04da757a617ee89a609de2036c07dcd66c0216f51150b6", func := "bagatelle/bagatellelaw09.ServerSessions", spec := "serverSessions", inPlace := ["math/bits.Add64", "math/bits.Sub64", "maps.clone"], unfollowed := true, recurses := true, named := ["math/bits.divideError", "math/bits.overflowError"], apart := false }
def ServerSessionsSaid : Prop := serverSessionsRow.holds Tryz.pinned (OpenSpec.ofChange serverSessionsSpec)

/-- ITS FALSE NEIGHBOUR: 'it returns false'. Refute it at one input. -/
def serverSessionsWrong : ChangeSpec := { name := "serverSessions", fn := fun _ => fun
  | [d1, d2] => { results := [.lit (.bool false)], args := [d1, d2] }
  | _ => none }
def ServerSessionsWrongFalsely : Prop := serverSessionsRow.holds Tryz.pinned (OpenSpec.ofChange serverSessionsWrong)

/-- 'bagatellelaw09.ServerBroken': WHATEVER THE INPUT: true; the input reads as it did. -/
def serverBrokenSpec : ChangeSpec := { name := "serverBroken", fn := fun _ => fun
  | [d1, d2, d3] => { results := [.lit (.bool true)], args := [d1, d2, d3] }
  | _ => none }
def serverBrokenRow : OpenClaim := { program := "ytogdmfknfkcjdaagreat", sum := "39f63a5b68a35e661a04da757a617ee89a609de2036c07dcd66c0216f51150b6", func := "bagatelle/bagatellelaw09.ServerBroken", spec := "serverBroken", inPlace := ["math/bits.Add64", "math/bits.Sub64", "maps.clone"], unfollowed := true, recurses := true, named := ["math/bits.divideError", "math/bits.overflowError"], apart := false }
def ServerBrokenSaid : Prop := serverBrokenRow.holds Tryz.pinned (OpenSpec.ofChange serverBrokenSpec)

/-- ITS FALSE NEIGHBOUR: 'it returns false'. Refute it at one input. -/
def serverBrokenWrong : ChangeSpec := { name := "serverBroken", fn := fun _ => fun
  | [d1, d2, d3] => { results := [.lit (.bool false)], args := [d1, d2, d3] }
  | _ => none }
def ServerBrokenWrongFalsely : Prop := serverBrokenRow.holds Tryz.pinned (OpenSpec.ofChange serverBrokenWrong)

/-- 'bagatellelaw09.ServerFull': WHATEVER THE INPUT: true; the input reads as it did. -/
def serverFullSpec : ChangeSpec := { name := "serverFull", fn := fun _ => fun
  | [d1, d2] => { results := [.lit (.bool true)], args := [d1, d2] }
  | _ => none }
def serverFullRow : OpenClaim := { program := "ytogdmfknfkcjdaagreat", sum := "39f63a5b68a35e661a04da757a617ee89a609de2036c07dcd66c0216f51150b6", func := "bagatelle/bagatellelaw09.ServerFull", spec := "serverFull", inPlace := ["maps.clone", "math/bits.Add64", "math/bits.Sub64"], unfollowed := true, recurses := true, named := ["math/bits.divideError", "math/bits.overflowError"], apart := false }
def ServerFullSaid : Prop := serverFullRow.holds Tryz.pinned (OpenSpec.ofChange serverFullSpec)

/-- ITS FALSE NEIGHBOUR: 'it returns false'. Refute it at one input. -/
def serverFullWrong : ChangeSpec := { name := "serverFull", fn := fun _ => fun
  | [d1, d2] => { results := [.lit (.bool false)], args := [d1, d2] }
  | _ => none }
def ServerFullWrongFalsely : Prop := serverFullRow.holds Tryz.pinned (OpenSpec.ofChange serverFullWrong)

/-- 'bagatellelaw09.ServerSetups': WHATEVER THE INPUT: true; the input reads as it did. -/
def serverSetupsSpec : ChangeSpec := { name := "serverSetups", fn := fun _ => fun
  | [d] => { results := [.lit (.bool true)], args := [d] }
  | _ => none }
def serverSetupsRow : OpenClaim := { program := "ytogdmfknfkcjdaagreat", sum := "39f63a5b68a35e661a04da757a617ee89a609de2036c07dcd66c0216f51150b6", func := "bagatelle/bagatellelaw09.ServerSetups", spec := "serverSetups", inPlace := ["maps.clone", "math/bits.Add64", "math/bits.Sub64"], unfollowed := true, recurses := true, named := ["math/bits.divideError", "math/bits.overflowError"], apart := false }
def ServerSetupsSaid : Prop := serverSetupsRow.holds Tryz.pinned (OpenSpec.ofChange serverSetupsSpec)

/-- ITS FALSE NEIGHBOUR: 'it returns false'. Refute it at one input. -/
def serverSetupsWrong : ChangeSpec := { name := "serverSetups", fn := fun _ => fun
  | [d] => { results := [.lit (.bool false)], args := [d] }
  | _ => none }
def ServerSetupsWrongFalsely : Prop := serverSetupsRow.holds Tryz.pinned (OpenSpec.ofChange serverSetupsWrong)

/-- 'bagatellelaw10.HistoryChecks': WHATEVER THE INPUT: true; the input reads as it did. -/
def historyChecksSpec : ChangeSpec := { name := "historyChecks", fn := fun _ => fun
  | [d1, d2] => { results := [.lit (.bool true)], args := [d1, d2] }
  | _ => none }
def historyChecksRow : OpenClaim := { program := "ytogdmfknfkcjdaagreat", sum := "39f63a5b68a35e661a04da757a617ee89a609de2036c07dcd66c0216f51150b6", func := "bagatelle/bagatellelaw10.HistoryChecks", spec := "historyChecks", inPlace := ["math/bits.Add64", "math/bits.Sub64"], unfollowed := true, recurses := true, named := ["math/bits.divideError", "math/bits.overflowError"], apart := false }
def HistoryChecksSaid : Prop := historyChecksRow.holds Tryz.pinned (OpenSpec.ofChange historyChecksSpec)

/-- ITS FALSE NEIGHBOUR: 'it returns false'. Refute it at one input. -/
def historyChecksWrong : ChangeSpec := { name := "historyChecks", fn := fun _ => fun
  | [d1, d2] => { results := [.lit (.bool false)], args := [d1, d2] }
  | _ => none }
def HistoryChecksWrongFalsely : Prop := historyChecksRow.holds Tryz.pinned (OpenSpec.ofChange historyChecksWrong)

/-- 'bagatellelaw10.HistoryFragments': WHATEVER THE INPUT: true; the input reads as it did. -/
def historyFragmentsSpec : ChangeSpec := { name := "historyFragments", fn := fun _ => fun
  | [d1, d2] => { results := [.lit (.bool true)], args := [d1, d2] }
  | _ => none }
def historyFragmentsRow : OpenClaim := { program := "ytogdmfknfkcjdaagreat", sum := "39f63a5b68a35e661a04da757a617ee89a609de2036c07dcd66c0216f51150b6", func := "bagatelle/bagatellelaw10.HistoryFragments", spec := "historyFragments", inPlace := ["math/bits.Add64", "math/bits.Sub64"], unfollowed := true, recurses := true, named := ["math/bits.divideError", "math/bits.overflowError"], apart := false }
def HistoryFragmentsSaid : Prop := historyFragmentsRow.holds Tryz.pinned (OpenSpec.ofChange historyFragmentsSpec)

/-- ITS FALSE NEIGHBOUR: 'it returns false'. Refute it at one input. -/
def historyFragmentsWrong : ChangeSpec := { name := "historyFragments", fn := fun _ => fun
  | [d1, d2] => { results := [.lit (.bool false)], args := [d1, d2] }
  | _ => none }
def HistoryFragmentsWrongFalsely : Prop := historyFragmentsRow.holds Tryz.pinned (OpenSpec.ofChange historyFragmentsWrong)

/-- 'bagatellelaw10.HistoryBytes': WHATEVER THE INPUT: true; the input reads as it did. -/
def historyBytesSpec : ChangeSpec := { name := "historyBytes", fn := fun _ => fun
  | [d] => { results := [.lit (.bool true)], args := [d] }
  | _ => none }
def historyBytesRow : OpenClaim := { program := "ytogdmfknfkcjdaagreat", sum := "39f63a5b68a35e661a04da757a617ee89a609de2036c07dcd66c0216f51150b6", func := "bagatelle/bagatellelaw10.HistoryBytes", spec := "historyBytes", inPlace := ["math/bits.Add64", "math/bits.Sub64"], unfollowed := true, recurses := true, named := ["math/bits.divideError", "math/bits.overflowError"], apart := false }
def HistoryBytesSaid : Prop := historyBytesRow.holds Tryz.pinned (OpenSpec.ofChange historyBytesSpec)

/-- ITS FALSE NEIGHBOUR: 'it returns false'. Refute it at one input. -/
def historyBytesWrong : ChangeSpec := { name := "historyBytes", fn := fun _ => fun
  | [d] => { results := [.lit (.bool false)], args := [d] }
  | _ => none }
def HistoryBytesWrongFalsely : Prop := historyBytesRow.holds Tryz.pinned (OpenSpec.ofChange historyBytesWrong)

/-- 'bagatellelaw10.HistoryRead': WHATEVER THE INPUT: true; the input reads as it did. -/
def historyReadSpec : ChangeSpec := { name := "historyRead", fn := fun _ => fun
  | [d] => { results := [.lit (.bool true)], args := [d] }
  | _ => none }
def historyReadRow : OpenClaim := { program := "ytogdmfknfkcjdaagreat", sum := "39f63a5b68a35e661a04da757a617ee89a609de2036c07dcd66c0216f51150b6", func := "bagatelle/bagatellelaw10.HistoryRead", spec := "historyRead", inPlace := ["math/bits.Add64", "math/bits.Sub64"], unfollowed := true, recurses := true, named := ["math/bits.divideError", "math/bits.overflowError"], apart := false }
def HistoryReadSaid : Prop := historyReadRow.holds Tryz.pinned (OpenSpec.ofChange historyReadSpec)

/-- ITS FALSE NEIGHBOUR: 'it returns false'. Refute it at one input. -/
def historyReadWrong : ChangeSpec := { name := "historyRead", fn := fun _ => fun
  | [d] => { results := [.lit (.bool false)], args := [d] }
  | _ => none }
def HistoryReadWrongFalsely : Prop := historyReadRow.holds Tryz.pinned (OpenSpec.ofChange historyReadWrong)

/- THE SECOND FORM. 'bulk': how many values and letters a reading holds, each counted each time it is reached (what is shared counts as often as it is met; a slice's spare places count too). A statement '..UptoSaid' is the law's where the arguments, and the package variables that the reading takes, are together of bulk at most 1048576: NARROWER than '..Said'. Prove '..Said' where nothing that the law and all that it calls make is longer than what came in: it says more and counts as full. Else prove '..UptoSaid'. A law counts once. -/
mutual
def uptoBulk {H : Type} : DataW H → Nat
  | .lit (.string bytes) => bytes.length + 1
  | .lit _ => 1
  | .nil => 1
  | .ptr d => uptoBulk d + 1
  | .slice elems spare => uptoBulkAll elems + uptoBulkAll spare + 1
  | .agg parts => uptoBulkAll parts + 1
  | .iface _ d => uptoBulk d + 1
  | .map entries => uptoBulkEntries entries + 1
  | .held _ => 1
def uptoBulkAll {H : Type} : List (DataW H) → Nat
  | [] => 0
  | d :: r => uptoBulk d + uptoBulkAll r
def uptoBulkEntries {H : Type} : List (Lit × DataW H) → Nat
  | [] => 0
  | x :: r => uptoBulkEntry x + uptoBulkEntries r
def uptoBulkEntry {H : Type} : Lit × DataW H → Nat
  | (.string bytes, d) => bytes.length + uptoBulk d + 1
  | (_, d) => uptoBulk d + 1
 end
def uptoSmall : (H : Type) → List (DataW H) → Bool := fun _ ds => decide (uptoBulkAll ds ≤ 1048576)
def OpenSpec.upto (s : _root_.Go.ChangeSpec) : _root_.Go.OpenSpec := { _root_.Go.OpenSpec.ofChange s with cond := some uptoSmall }

/-- 'bagatellelaw08.RulesSessions', WHERE WHAT IT READS IS OF BULK AT MOST 1048576: true; the input reads as it did. -/
def rulesSessionsUptoRow : OpenClaim := { program := "ytogdmfknfkcjdaagreat", sum := "39f63a5b68a35e661a04da757a617ee89a609de2036c07dcd66c0216f51150b6", func := "bagatelle/bagatellelaw08.RulesSessions", spec := "rulesSessions", inPlace := ["math/bits.Add64", "math/bits.Sub64"], unfollowed := true, recurses := true, named := ["math/bits.divideError", "math/bits.overflowError"], apart := false, narrowed := true }
def RulesSessionsUptoSaid : Prop := rulesSessionsUptoRow.holds Tryz.pinned (OpenSpec.upto rulesSessionsSpec)

/-- 'bagatellelaw09.ServerSessions', WHERE WHAT IT READS IS OF BULK AT MOST 1048576: true; the input reads as it did. -/
def serverSessionsUptoRow : OpenClaim := { program := "ytogdmfknfkcjdaagreat", sum := "39f63a5b68a35e661a04da757a617ee89a609de2036c07dcd66c0216f51150b6", func := "bagatelle/bagatellelaw09.ServerSessions", spec := "serverSessions", inPlace := ["math/bits.Add64", "math/bits.Sub64", "maps.clone"], unfollowed := true, recurses := true, named := ["math/bits.divideError", "math/bits.overflowError"], apart := false, narrowed := true }
def ServerSessionsUptoSaid : Prop := serverSessionsUptoRow.holds Tryz.pinned (OpenSpec.upto serverSessionsSpec)

/-- 'bagatellelaw09.ServerBroken', WHERE WHAT IT READS IS OF BULK AT MOST 1048576: true; the input reads as it did. -/
def serverBrokenUptoRow : OpenClaim := { program := "ytogdmfknfkcjdaagreat", sum := "39f63a5b68a35e661a04da757a617ee89a609de2036c07dcd66c0216f51150b6", func := "bagatelle/bagatellelaw09.ServerBroken", spec := "serverBroken", inPlace := ["math/bits.Add64", "math/bits.Sub64", "maps.clone"], unfollowed := true, recurses := true, named := ["math/bits.divideError", "math/bits.overflowError"], apart := false, narrowed := true }
def ServerBrokenUptoSaid : Prop := serverBrokenUptoRow.holds Tryz.pinned (OpenSpec.upto serverBrokenSpec)

/-- 'bagatellelaw09.ServerFull', WHERE WHAT IT READS IS OF BULK AT MOST 1048576: true; the input reads as it did. -/
def serverFullUptoRow : OpenClaim := { program := "ytogdmfknfkcjdaagreat", sum := "39f63a5b68a35e661a04da757a617ee89a609de2036c07dcd66c0216f51150b6", func := "bagatelle/bagatellelaw09.ServerFull", spec := "serverFull", inPlace := ["maps.clone", "math/bits.Add64", "math/bits.Sub64"], unfollowed := true, recurses := true, named := ["math/bits.divideError", "math/bits.overflowError"], apart := false, narrowed := true }
def ServerFullUptoSaid : Prop := serverFullUptoRow.holds Tryz.pinned (OpenSpec.upto serverFullSpec)

/-- 'bagatellelaw09.ServerSetups', WHERE WHAT IT READS IS OF BULK AT MOST 1048576: true; the input reads as it did. -/
def serverSetupsUptoRow : OpenClaim := { program := "ytogdmfknfkcjdaagreat", sum := "39f63a5b68a35e661a04da757a617ee89a609de2036c07dcd66c0216f51150b6", func := "bagatelle/bagatellelaw09.ServerSetups", spec := "serverSetups", inPlace := ["maps.clone", "math/bits.Add64", "math/bits.Sub64"], unfollowed := true, recurses := true, named := ["math/bits.divideError", "math/bits.overflowError"], apart := false, narrowed := true }
def ServerSetupsUptoSaid : Prop := serverSetupsUptoRow.holds Tryz.pinned (OpenSpec.upto serverSetupsSpec)

/-- 'bagatellelaw10.HistoryChecks', WHERE WHAT IT READS IS OF BULK AT MOST 1048576: true; the input reads as it did. -/
def historyChecksUptoRow : OpenClaim := { program := "ytogdmfknfkcjdaagreat", sum := "39f63a5b68a35e661a04da757a617ee89a609de2036c07dcd66c0216f51150b6", func := "bagatelle/bagatellelaw10.HistoryChecks", spec := "historyChecks", inPlace := ["math/bits.Add64", "math/bits.Sub64"], unfollowed := true, recurses := true, named := ["math/bits.divideError", "math/bits.overflowError"], apart := false, narrowed := true }
def HistoryChecksUptoSaid : Prop := historyChecksUptoRow.holds Tryz.pinned (OpenSpec.upto historyChecksSpec)

/-- 'bagatellelaw10.HistoryFragments', WHERE WHAT IT READS IS OF BULK AT MOST 1048576: true; the input reads as it did. -/
def historyFragmentsUptoRow : OpenClaim := { program := "ytogdmfknfkcjdaagreat", sum := "39f63a5b68a35e661a04da757a617ee89a609de2036c07dcd66c0216f51150b6", func := "bagatelle/bagatellelaw10.HistoryFragments", spec := "historyFragments", inPlace := ["math/bits.Add64", "math/bits.Sub64"], unfollowed := true, recurses := true, named := ["math/bits.divideError", "math/bits.overflowError"], apart := false, narrowed := true }
def HistoryFragmentsUptoSaid : Prop := historyFragmentsUptoRow.holds Tryz.pinned (OpenSpec.upto historyFragmentsSpec)

/-- 'bagatellelaw10.HistoryBytes', WHERE WHAT IT READS IS OF BULK AT MOST 1048576: true; the input reads as it did. -/
def historyBytesUptoRow : OpenClaim := { program := "ytogdmfknfkcjdaagreat", sum := "39f63a5b68a35e661a04da757a617ee89a609de2036c07dcd66c0216f51150b6", func := "bagatelle/bagatellelaw10.HistoryBytes", spec := "historyBytes", inPlace := ["math/bits.Add64", "math/bits.Sub64"], unfollowed := true, recurses := true, named := ["math/bits.divideError", "math/bits.overflowError"], apart := false, narrowed := true }
def HistoryBytesUptoSaid : Prop := historyBytesUptoRow.holds Tryz.pinned (OpenSpec.upto historyBytesSpec)

/-- 'bagatellelaw10.HistoryRead', WHERE WHAT IT READS IS OF BULK AT MOST 1048576: true; the input reads as it did. -/
def historyReadUptoRow : OpenClaim := { program := "ytogdmfknfkcjdaagreat", sum := "39f63a5b68a35e661a04da757a617ee89a609de2036c07dcd66c0216f51150b6", func := "bagatelle/bagatellelaw10.HistoryRead", spec := "historyRead", inPlace := ["math/bits.Add64", "math/bits.Sub64"], unfollowed := true, recurses := true, named := ["math/bits.divideError", "math/bits.overflowError"], apart := false, narrowed := true }
def HistoryReadUptoSaid : Prop := historyReadUptoRow.holds Tryz.pinned (OpenSpec.upto historyReadSpec)

end Rows
end Go.Proofs.YtogdmfknfkcjdaaGreat
