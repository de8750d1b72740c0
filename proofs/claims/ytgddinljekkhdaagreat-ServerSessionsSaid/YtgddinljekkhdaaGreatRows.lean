/-
  No cell of these rows narrows 'for every input' (looked for: loops, veiled, ifaces, maps, wideKeys, modest, calm, conditions, laid).
  DERIVED. THE GIVEN ROWS OF THIS SEAT. 3 by the template 'for every input the law returns true; each argument reads behind the call as it read before'; 0 by the template 'total and deterministic' (their statements: YtgddinljekkhdaaGreatTotals.lean).
  GIVEN WITH THE SEED: the statements are not yours to turn. If you find one false, say at which input.
  Laid BY PROGRAM, IN A SANDBOX (cutbox-rows.mjs): the forced cells as the released guide's own fill.sh prints them over the translation 6065734815409aff… (all of the seat's roots in one cut). By AI agents, Wed Nov 11 2026. No macro, syntax, notation, axiom, sorry.
-/
import Derived.Test.YtgddinljekkhdaaGreatChecked
import GoSem.Claim
import GoSem.ClaimJoined
import GoSem.ClaimMapViews
import Derived.JoinedTies
import Derived.KernelRfl
namespace Go.Proofs.YtgddinljekkhdaaGreat
/- THE CELL 'sum', in the pinned program and in every row, IS THE sha256 OF THE DUMP (.gsa) THAT YtgddinljekkhdaaGreatProg.lean LOADS. Nothing in Lean hashes anything: it is a label: what it is worth is what the hold of that sum in a sandbox is worth. -/
noncomputable def Tryz.pinned : Pinned := { name := "ytgddinljekkhdaagreat", sum := "6065734815409affce37ed4c979e44cef512ce202c15f378bc25d5e01e5cdc28", checked := Tryz.checked }
namespace Rows
def none {H : Type} : Left H := { results := [], args := [] }

/-- 'bagatellelaw09.ServerSessions': WHATEVER THE INPUT: true; the input reads as it did. -/
def serverSessionsSpec : ChangeSpec := { name := "serverSessions", fn := fun _ => fun
  | [d1, d2] => { results := [.lit (.bool true)], args := [d1, d2] }
  | _ => none }
def serverSessionsRow : OpenClaim := { program := "ytgddinljekkhdaagreat", sum := "6065734815409affce37ed4c979e44cef512ce202c15f378bc25d5e01e5cdc28", func := "bagatelle/bagatellelaw09.ServerSessions", spec := "serverSessions", inPlace := ["math/bits.Add64", "math/bits.Sub64", "maps.clone"], unfollowed := true, recurses := true, named := ["math/bits.divideError", "math/bits.overflowError"], apart := false }
def ServerSessionsSaid : Prop := serverSessionsRow.holds Tryz.pinned (OpenSpec.ofChange serverSessionsSpec)

/-- ITS FALSE NEIGHBOUR: 'it returns false'. Refute it at one input. -/
def serverSessionsWrong : ChangeSpec := { name := "serverSessions", fn := fun _ => fun
  | [d1, d2] => { results := [.lit (.bool false)], args := [d1, d2] }
  | _ => none }
def ServerSessionsWrongFalsely : Prop := serverSessionsRow.holds Tryz.pinned (OpenSpec.ofChange serverSessionsWrong)

/-- 'bagatellelaw09.ServerBroken': WHATEVER THE INPUT: true; the input reads as it did. -/
def serverBrokenSpec : ChangeSpec := { name := "serverBroken", fn := fun _ => fun
  | [d1, d2, d3] => { results := [.lit (.bool true)], args := [d1, d2, d3] }
  | _ => none }
def serverBrokenRow : OpenClaim := { program := "ytgddinljekkhdaagreat", sum := "6065734815409affce37ed4c979e44cef512ce202c15f378bc25d5e01e5cdc28", func := "bagatelle/bagatellelaw09.ServerBroken", spec := "serverBroken", inPlace := ["math/bits.Add64", "math/bits.Sub64", "maps.clone"], unfollowed := true, recurses := true, named := ["math/bits.divideError", "math/bits.overflowError"], apart := false }
def ServerBrokenSaid : Prop := serverBrokenRow.holds Tryz.pinned (OpenSpec.ofChange serverBrokenSpec)

/-- ITS FALSE NEIGHBOUR: 'it returns false'. Refute it at one input. -/
def serverBrokenWrong : ChangeSpec := { name := "serverBroken", fn := fun _ => fun
  | [d1, d2, d3] => { results := [.lit (.bool false)], args := [d1, d2, d3] }
  | _ => none }
def ServerBrokenWrongFalsely : Prop := serverBrokenRow.holds Tryz.pinned (OpenSpec.ofChange serverBrokenWrong)

/-- 'bagatellelaw09.ServerFull': WHATEVER THE INPUT: true; the input reads as it did. -/
def serverFullSpec : ChangeSpec := { name := "serverFull", fn := fun _ => fun
  | [d1, d2] => { results := [.lit (.bool true)], args := [d1, d2] }
  | _ => none }
def serverFullRow : OpenClaim := { program := "ytgddinljekkhdaagreat", sum := "6065734815409affce37ed4c979e44cef512ce202c15f378bc25d5e01e5cdc28", func := "bagatelle/bagatellelaw09.ServerFull", spec := "serverFull", inPlace := ["maps.clone", "math/bits.Add64", "math/bits.Sub64"], unfollowed := true, recurses := true, named := ["math/bits.divideError", "math/bits.overflowError"], apart := false }
def ServerFullSaid : Prop := serverFullRow.holds Tryz.pinned (OpenSpec.ofChange serverFullSpec)

/-- ITS FALSE NEIGHBOUR: 'it returns false'. Refute it at one input. -/
def serverFullWrong : ChangeSpec := { name := "serverFull", fn := fun _ => fun
  | [d1, d2] => { results := [.lit (.bool false)], args := [d1, d2] }
  | _ => none }
def ServerFullWrongFalsely : Prop := serverFullRow.holds Tryz.pinned (OpenSpec.ofChange serverFullWrong)

/- THE SECOND FORM. 'bulk': how many values and letters a reading holds, each counted each time it is reached (what is shared counts as often as it is met; a slice's spare places count too). A statement '..UptoSaid' is the law's where the arguments, and the package variables that the reading takes, are together of bulk at most 1048576: NARROWER than '..Said'. Prove '..Said' where nothing that the law and all that it calls make is longer than what came in: it says more and counts as full. Else prove '..UptoSaid'. A law counts once. -/
mutual
def uptoBulk {H : Type} : DataW H → Nat
  | .lit (.string bytes) => bytes.length + 1
  | .lit _ => 1
  | .nil => 1
  | .ptr d => uptoBulk d + 1
  | .slice elems spare => uptoBulkAll elems + uptoBulkAll spare + 1
  | .agg parts => uptoBulkAll parts + 1
  | .iface _ d => uptoBulk d + 1
  | .map entries => uptoBulkEntries entries + 1
  | .held _ => 1
def uptoBulkAll {H : Type} : List (DataW H) → Nat
  | [] => 0
  | d :: r => uptoBulk d + uptoBulkAll r
def uptoBulkEntries {H : Type} : List (Lit × DataW H) → Nat
  | [] => 0
  | x :: r => uptoBulkEntry x + uptoBulkEntries r
def uptoBulkEntry {H : Type} : Lit × DataW H → Nat
  | (.string bytes, d) => bytes.length + uptoBulk d + 1
  | (_, d) => uptoBulk d + 1
 end
def uptoSmall : (H : Type) → List (DataW H) → Bool := fun _ ds => decide (uptoBulkAll ds ≤ 1048576)
def OpenSpec.upto (s : _root_.Go.ChangeSpec) : _root_.Go.OpenSpec := { _root_.Go.OpenSpec.ofChange s with cond := some uptoSmall }

/-- 'bagatellelaw09.ServerSessions', WHERE WHAT IT READS IS OF BULK AT MOST 1048576: true; the input reads as it did. -/
def serverSessionsUptoRow : OpenClaim := { program := "ytgddinljekkhdaagreat", sum := "6065734815409affce37ed4c979e44cef512ce202c15f378bc25d5e01e5cdc28", func := "bagatelle/bagatellelaw09.ServerSessions", spec := "serverSessions", inPlace := ["math/bits.Add64", "math/bits.Sub64", "maps.clone"], unfollowed := true, recurses := true, named := ["math/bits.divideError", "math/bits.overflowError"], apart := false, narrowed := true }
def ServerSessionsUptoSaid : Prop := serverSessionsUptoRow.holds Tryz.pinned (OpenSpec.upto serverSessionsSpec)

/-- 'bagatellelaw09.ServerBroken', WHERE WHAT IT READS IS OF BULK AT MOST 1048576: true; the input reads as it did. -/
def serverBrokenUptoRow : OpenClaim := { program := "ytgddinljekkhdaagreat", sum := "6065734815409affce37ed4c979e44cef512ce202c15f378bc25d5e01e5cdc28", func := "bagatelle/bagatellelaw09.ServerBroken", spec := "serverBroken", inPlace := ["math/bits.Add64", "math/bits.Sub64", "maps.clone"], unfollowed := true, recurses := true, named := ["math/bits.divideError", "math/bits.overflowError"], apart := false, narrowed := true }
def ServerBrokenUptoSaid : Prop := serverBrokenUptoRow.holds Tryz.pinned (OpenSpec.upto serverBrokenSpec)

/-- 'bagatellelaw09.ServerFull', WHERE WHAT IT READS IS OF BULK AT MOST 1048576: true; the input reads as it did. -/
def serverFullUptoRow : OpenClaim := { program := "ytgddinljekkhdaagreat", sum := "6065734815409affce37ed4c979e44cef512ce202c15f378bc25d5e01e5cdc28", func := "bagatelle/bagatellelaw09.ServerFull", spec := "serverFull", inPlace := ["maps.clone", "math/bits.Add64", "math/bits.Sub64"], unfollowed := true, recurses := true, named := ["math/bits.divideError", "math/bits.overflowError"], apart := false, narrowed := true }
def ServerFullUptoSaid : Prop := serverFullUptoRow.holds Tryz.pinned (OpenSpec.upto serverFullSpec)

end Rows
end Go.Proofs.YtgddinljekkhdaaGreat
