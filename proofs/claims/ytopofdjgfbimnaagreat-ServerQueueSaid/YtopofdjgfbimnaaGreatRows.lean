/-
  No cell of these rows narrows 'for every input' (looked for: loops, veiled, ifaces, maps, wideKeys, modest, calm, conditions, laid).
  DERIVED. THE GIVEN ROWS OF THIS SEAT. 6 by the template 'for every input the law returns true; each argument reads behind the call as it read before'; 0 by the template 'total and deterministic' (their statements: YtopofdjgfbimnaaGreatTotals.lean).
  GIVEN WITH THE SEED: the statements are not yours to turn. If you find one false, say at which input.
  Laid BY PROGRAM, IN A SANDBOX (cutbox-rows.mjs): the forced cells as the released guide's own fill.sh prints them over the translation 694fe80423ba0d34… (all of the seat's roots in one cut). By AI agents, Wed Nov 11 2026. No macro, syntax, notation, axiom, sorry.
-/
import Derived.Test.YtopofdjgfbimnaaGreatChecked
import GoSem.Claim
import GoSem.ClaimJoined
import GoSem.ClaimMapViews
import Derived.JoinedTies
import Derived.KernelRfl
namespace Go.Proofs.YtopofdjgfbimnaaGreat
/- THE CELL 'sum', in the pinned program and in every row, IS THE sha256 OF THE DUMP (.gsa) THAT YtopofdjgfbimnaaGreatProg.lean LOADS. Nothing in Lean hashes anything: it is a label: what it is worth is what the hold of that sum in a sandbox is worth. -/
noncomputable def Tryz.pinned : Pinned := { name := "ytopofdjgfbimnaagreat", sum := "694fe80423ba0d3477c3727cf285700ffba016a7dec0dd618930b475119f9744", checked := Tryz.checked }
namespace Rows
def none {H : Type} : Left H := { results := [], args := [] }

/-- 'bagatellelaw09.ServerKnown': WHATEVER THE INPUT: true; the input reads as it did. -/
def serverKnownSpec : ChangeSpec := { name := "serverKnown", fn := fun _ => fun
  | [] => { results := [.lit (.bool true)], args := [] }
  | _ => none }
def serverKnownRow : OpenClaim := { program := "ytopofdjgfbimnaagreat", sum := "694fe80423ba0d3477c3727cf285700ffba016a7dec0dd618930b475119f9744", func := "bagatelle/bagatellelaw09.ServerKnown", spec := "serverKnown", inPlace := ["math/bits.Add64", "math/bits.Sub64"], unfollowed := true, recurses := true, named := ["math/bits.divideError", "math/bits.overflowError"], apart := false }
def ServerKnownSaid : Prop := serverKnownRow.holds Tryz.pinned (OpenSpec.ofChange serverKnownSpec)

/-- ITS FALSE NEIGHBOUR: 'it returns false'. Refute it at one input. -/
def serverKnownWrong : ChangeSpec := { name := "serverKnown", fn := fun _ => fun
  | [] => { results := [.lit (.bool false)], args := [] }
  | _ => none }
def ServerKnownWrongFalsely : Prop := serverKnownRow.holds Tryz.pinned (OpenSpec.ofChange serverKnownWrong)

/-- 'bagatellelaw09.ServerQueue': WHATEVER THE INPUT: true; the input reads as it did. -/
def serverQueueSpec : ChangeSpec := { name := "serverQueue", fn := fun _ => fun
  | [d1, d2, d3] => { results := [.lit (.bool true)], args := [d1, d2, d3] }
  | _ => none }
def serverQueueRow : OpenClaim := { program := "ytopofdjgfbimnaagreat", sum := "694fe80423ba0d3477c3727cf285700ffba016a7dec0dd618930b475119f9744", func := "bagatelle/bagatellelaw09.ServerQueue", spec := "serverQueue", inPlace := ["math/bits.Add64", "math/bits.Sub64", "maps.clone"], unfollowed := true, recurses := true, named := ["math/bits.divideError", "math/bits.overflowError"], apart := false }
def ServerQueueSaid : Prop := serverQueueRow.holds Tryz.pinned (OpenSpec.ofChange serverQueueSpec)

/-- ITS FALSE NEIGHBOUR: 'it returns false'. Refute it at one input. -/
def serverQueueWrong : ChangeSpec := { name := "serverQueue", fn := fun _ => fun
  | [d1, d2, d3] => { results := [.lit (.bool false)], args := [d1, d2, d3] }
  | _ => none }
def ServerQueueWrongFalsely : Prop := serverQueueRow.holds Tryz.pinned (OpenSpec.ofChange serverQueueWrong)

/-- 'bagatellelaw09.ServerNone': WHATEVER THE INPUT: true; the input reads as it did. -/
def serverNoneSpec : ChangeSpec := { name := "serverNone", fn := fun _ => fun
  | [d1, d2, d3] => { results := [.lit (.bool true)], args := [d1, d2, d3] }
  | _ => none }
def serverNoneRow : OpenClaim := { program := "ytopofdjgfbimnaagreat", sum := "694fe80423ba0d3477c3727cf285700ffba016a7dec0dd618930b475119f9744", func := "bagatelle/bagatellelaw09.ServerNone", spec := "serverNone", inPlace := ["math/bits.Add64", "math/bits.Sub64", "maps.clone"], unfollowed := true, recurses := true, named := ["math/bits.divideError", "math/bits.overflowError"], apart := false }
def ServerNoneSaid : Prop := serverNoneRow.holds Tryz.pinned (OpenSpec.ofChange serverNoneSpec)

/-- ITS FALSE NEIGHBOUR: 'it returns false'. Refute it at one input. -/
def serverNoneWrong : ChangeSpec := { name := "serverNone", fn := fun _ => fun
  | [d1, d2, d3] => { results := [.lit (.bool false)], args := [d1, d2, d3] }
  | _ => none }
def ServerNoneWrongFalsely : Prop := serverNoneRow.holds Tryz.pinned (OpenSpec.ofChange serverNoneWrong)

/-- 'bagatellelaw09.ServerSetups': WHATEVER THE INPUT: true; the input reads as it did. -/
def serverSetupsSpec : ChangeSpec := { name := "serverSetups", fn := fun _ => fun
  | [d] => { results := [.lit (.bool true)], args := [d] }
  | _ => none }
def serverSetupsRow : OpenClaim := { program := "ytopofdjgfbimnaagreat", sum := "694fe80423ba0d3477c3727cf285700ffba016a7dec0dd618930b475119f9744", func := "bagatelle/bagatellelaw09.ServerSetups", spec := "serverSetups", inPlace := ["maps.clone", "math/bits.Add64", "math/bits.Sub64"], unfollowed := true, recurses := true, named := ["math/bits.divideError", "math/bits.overflowError"], apart := false }
def ServerSetupsSaid : Prop := serverSetupsRow.holds Tryz.pinned (OpenSpec.ofChange serverSetupsSpec)

/-- ITS FALSE NEIGHBOUR: 'it returns false'. Refute it at one input. -/
def serverSetupsWrong : ChangeSpec := { name := "serverSetups", fn := fun _ => fun
  | [d] => { results := [.lit (.bool false)], args := [d] }
  | _ => none }
def ServerSetupsWrongFalsely : Prop := serverSetupsRow.holds Tryz.pinned (OpenSpec.ofChange serverSetupsWrong)

/-- 'bagatellelaw10.HistoryChecks': WHATEVER THE INPUT: true; the input reads as it did. -/
def historyChecksSpec : ChangeSpec := { name := "historyChecks", fn := fun _ => fun
  | [d1, d2] => { results := [.lit (.bool true)], args := [d1, d2] }
  | _ => none }
def historyChecksRow : OpenClaim := { program := "ytopofdjgfbimnaagreat", sum := "694fe80423ba0d3477c3727cf285700ffba016a7dec0dd618930b475119f9744", func := "bagatelle/bagatellelaw10.HistoryChecks", spec := "historyChecks", inPlace := ["math/bits.Add64", "math/bits.Sub64"], unfollowed := true, recurses := true, named := ["math/bits.divideError", "math/bits.overflowError"], apart := false }
def HistoryChecksSaid : Prop := historyChecksRow.holds Tryz.pinned (OpenSpec.ofChange historyChecksSpec)

/-- ITS FALSE NEIGHBOUR: 'it returns false'. Refute it at one input. -/
def historyChecksWrong : ChangeSpec := { name := "historyChecks", fn := fun _ => fun
  | [d1, d2] => { results := [.lit (.bool false)], args := [d1, d2] }
  | _ => none }
def HistoryChecksWrongFalsely : Prop := historyChecksRow.holds Tryz.pinned (OpenSpec.ofChange historyChecksWrong)

/-- 'bagatellelaw10.HistoryKnown': WHATEVER THE INPUT: true; the input reads as it did. -/
def historyKnownSpec : ChangeSpec := { name := "historyKnown", fn := fun _ => fun
  | [] => { results := [.lit (.bool true)], args := [] }
  | _ => none }
def historyKnownRow : OpenClaim := { program := "ytopofdjgfbimnaagreat", sum := "694fe80423ba0d3477c3727cf285700ffba016a7dec0dd618930b475119f9744", func := "bagatelle/bagatellelaw10.HistoryKnown", spec := "historyKnown", inPlace := ["math/bits.Add64", "math/bits.Sub64"], unfollowed := true, recurses := true, named := ["math/bits.divideError", "math/bits.overflowError"], apart := false }
def HistoryKnownSaid : Prop := historyKnownRow.holds Tryz.pinned (OpenSpec.ofChange historyKnownSpec)

/-- ITS FALSE NEIGHBOUR: 'it returns false'. Refute it at one input. -/
def historyKnownWrong : ChangeSpec := { name := "historyKnown", fn := fun _ => fun
  | [] => { results := [.lit (.bool false)], args := [] }
  | _ => none }
def HistoryKnownWrongFalsely : Prop := historyKnownRow.holds Tryz.pinned (OpenSpec.ofChange historyKnownWrong)

/- THE SECOND FORM. 'bulk': how many values and letters a reading holds, each counted each time it is reached (what is shared counts as often as it is met; a slice's spare places count too). A statement '..UptoSaid' is the law's where the arguments, and the package variables that the reading takes, are together of bulk at most 1048576: NARROWER than '..Said'. Prove '..Said' where nothing that the law and all that it calls make is longer than what came in: it says more and counts as full. Else prove '..UptoSaid'. A law counts once. -/
mutual
def uptoBulk {H : Type} : DataW H → Nat
  | .lit (.string bytes) => bytes.length + 1
  | .lit _ => 1
  | .nil => 1
  | .ptr d => uptoBulk d + 1
  | .slice elems spare => uptoBulkAll elems + uptoBulkAll spare + 1
  | .agg parts => uptoBulkAll parts + 1
  | .iface _ d => uptoBulk d + 1
  | .map entries => uptoBulkEntries entries + 1
  | .held _ => 1
def uptoBulkAll {H : Type} : List (DataW H) → Nat
  | [] => 0
  | d :: r => uptoBulk d + uptoBulkAll r
def uptoBulkEntries {H : Type} : List (Lit × DataW H) → Nat
  | [] => 0
  | x :: r => uptoBulkEntry x + uptoBulkEntries r
def uptoBulkEntry {H : Type} : Lit × DataW H → Nat
  | (.string bytes, d) => bytes.length + uptoBulk d + 1
  | (_, d) => uptoBulk d + 1
 end
def uptoSmall : (H : Type) → List (DataW H) → Bool := fun _ ds => decide (uptoBulkAll ds ≤ 1048576)
def OpenSpec.upto (s : _root_.Go.ChangeSpec) : _root_.Go.OpenSpec := { _root_.Go.OpenSpec.ofChange s with cond := some uptoSmall }

/-- 'bagatellelaw09.ServerKnown', WHERE WHAT IT READS IS OF BULK AT MOST 1048576: true; the input reads as it did. -/
def serverKnownUptoRow : OpenClaim := { program := "ytopofdjgfbimnaagreat", sum := "694fe80423ba0d3477c3727cf285700ffba016a7dec0dd618930b475119f9744", func := "bagatelle/bagatellelaw09.ServerKnown", spec := "serverKnown", inPlace := ["math/bits.Add64", "math/bits.Sub64"], unfollowed := true, recurses := true, named := ["math/bits.divideError", "math/bits.overflowError"], apart := false, narrowed := true }
def ServerKnownUptoSaid : Prop := serverKnownUptoRow.holds Tryz.pinned (OpenSpec.upto serverKnownSpec)

/-- 'bagatellelaw09.ServerQueue', WHERE WHAT IT READS IS OF BULK AT MOST 1048576: true; the input reads as it did. -/
def serverQueueUptoRow : OpenClaim := { program := "ytopofdjgfbimnaagreat", sum := "694fe80423ba0d3477c3727cf285700ffba016a7dec0dd618930b475119f9744", func := "bagatelle/bagatellelaw09.ServerQueue", spec := "serverQueue", inPlace := ["math/bits.Add64", "math/bits.Sub64", "maps.clone"], unfollowed := true, recurses := true, named := ["math/bits.divideError", "math/bits.overflowError"], apart := false, narrowed := true }
def ServerQueueUptoSaid : Prop := serverQueueUptoRow.holds Tryz.pinned (OpenSpec.upto serverQueueSpec)

/-- 'bagatellelaw09.ServerNone', WHERE WHAT IT READS IS OF BULK AT MOST 1048576: true; the input reads as it did. -/
def serverNoneUptoRow : OpenClaim := { program := "ytopofdjgfbimnaagreat", sum := "694fe80423ba0d3477c3727cf285700ffba016a7dec0dd618930b475119f9744", func := "bagatelle/bagatellelaw09.ServerNone", spec := "serverNone", inPlace := ["math/bits.Add64", "math/bits.Sub64", "maps.clone"], unfollowed := true, recurses := true, named := ["math/bits.divideError", "math/bits.overflowError"], apart := false, narrowed := true }
def ServerNoneUptoSaid : Prop := serverNoneUptoRow.holds Tryz.pinned (OpenSpec.upto serverNoneSpec)

/-- 'bagatellelaw09.ServerSetups', WHERE WHAT IT READS IS OF BULK AT MOST 1048576: true; the input reads as it did. -/
def serverSetupsUptoRow : OpenClaim := { program := "ytopofdjgfbimnaagreat", sum := "694fe80423ba0d3477c3727cf285700ffba016a7dec0dd618930b475119f9744", func := "bagatelle/bagatellelaw09.ServerSetups", spec := "serverSetups", inPlace := ["maps.clone", "math/bits.Add64", "math/bits.Sub64"], unfollowed := true, recurses := true, named := ["math/bits.divideError", "math/bits.overflowError"], apart := false, narrowed := true }
def ServerSetupsUptoSaid : Prop := serverSetupsUptoRow.holds Tryz.pinned (OpenSpec.upto serverSetupsSpec)

/-- 'bagatellelaw10.HistoryChecks', WHERE WHAT IT READS IS OF BULK AT MOST 1048576: true; the input reads as it did. -/
def historyChecksUptoRow : OpenClaim := { program := "ytopofdjgfbimnaagreat", sum := "694fe80423ba0d3477c3727cf285700ffba016a7dec0dd618930b475119f9744", func := "bagatelle/bagatellelaw10.HistoryChecks", spec := "historyChecks", inPlace := ["math/bits.Add64", "math/bits.Sub64"], unfollowed := true, recurses := true, named := ["math/bits.divideError", "math/bits.overflowError"], apart := false, narrowed := true }
def HistoryChecksUptoSaid : Prop := historyChecksUptoRow.holds Tryz.pinned (OpenSpec.upto historyChecksSpec)

/-- 'bagatellelaw10.HistoryKnown', WHERE WHAT IT READS IS OF BULK AT MOST 1048576: true; the input reads as it did. -/
def historyKnownUptoRow : OpenClaim := { program := "ytopofdjgfbimnaagreat", sum := "694fe80423ba0d3477c3727cf285700ffba016a7dec0dd618930b475119f9744", func := "bagatelle/bagatellelaw10.HistoryKnown", spec := "historyKnown", inPlace := ["math/bits.Add64", "math/bits.Sub64"], unfollowed := true, recurses := true, named := ["math/bits.divideError", "math/bits.overflowError"], apart := false, narrowed := true }
def HistoryKnownUptoSaid : Prop := historyKnownUptoRow.holds Tryz.pinned (OpenSpec.upto historyKnownSpec)

end Rows
end Go.Proofs.YtopofdjgfbimnaaGreat
