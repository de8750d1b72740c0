/-
  No cell of these rows narrows 'for every input' (looked for: loops, veiled, ifaces, maps, wideKeys, modest, calm, conditions, laid).
  DERIVED. THE GIVEN ROWS OF THIS SEAT. 3 by the template 'for every input the law returns true; each argument reads behind the call as it read before'; 0 by the template 'total and deterministic' (their statements: YtbmbakmhnimkfaaGreatTotals.lean).
  GIVEN WITH THE SEED: the statements are not yours to turn. If you find one false, say at which input.
  Laid BY PROGRAM, IN A SANDBOX (cutbox-rows.mjs): the forced cells as the released guide's own fill.sh prints them over the translation 6efcec01c2262ec7… (all of the seat's roots in one cut). By AI agents, Wed Nov 11 2026. No macro, syntax, notation, axiom, sorry.
-/
import Derived.Test.YtbmbakmhnimkfaaGreatChecked
import GoSem.Claim
import GoSem.ClaimJoined
import GoSem.ClaimMapViews
import Derived.JoinedTies
import Derived.KernelRfl
namespace Go.Proofs.YtbmbakmhnimkfaaGreat
/- THE CELL 'sum', in the pinned program and in every row, IS THE sha256 OF THE DUMP (.gsa) THAT YtbmbakmhnimkfaaGreatProg.lean LOADS. Nothing in Lean hashes anything: it is a label: what it is worth is what the hold of that sum in a sandbox is worth. -/
noncomputable def Tryz.pinned : Pinned := { name := "ytbmbakmhnimkfaagreat", sum := "6efcec01c2262ec731f140f0ed593ae4be4b62d117ad8e2a119407ca20d1f197", checked := Tryz.checked }
namespace Rows
def none {H : Type} : Left H := { results := [], args := [] }

/-- 'bagatellelaw09.ServerFull': WHATEVER THE INPUT: true; the input reads as it did. -/
def serverFullSpec : ChangeSpec := { name := "serverFull", fn := fun _ => fun
  | [d1, d2] => { results := [.lit (.bool true)], args := [d1, d2] }
  | _ => none }
def serverFullRow : OpenClaim := { program := "ytbmbakmhnimkfaagreat", sum := "6efcec01c2262ec731f140f0ed593ae4be4b62d117ad8e2a119407ca20d1f197", func := "bagatelle/bagatellelaw09.ServerFull", spec := "serverFull", inPlace := ["maps.clone", "math/bits.Add64", "math/bits.Sub64"], unfollowed := true, recurses := true, named := ["math/bits.divideError", "math/bits.overflowError"], apart := false }
def ServerFullSaid : Prop := serverFullRow.holds Tryz.pinned (OpenSpec.ofChange serverFullSpec)

/-- ITS FALSE NEIGHBOUR: 'it returns false'. Refute it at one input. -/
def serverFullWrong : ChangeSpec := { name := "serverFull", fn := fun _ => fun
  | [d1, d2] => { results := [.lit (.bool false)], args := [d1, d2] }
  | _ => none }
def ServerFullWrongFalsely : Prop := serverFullRow.holds Tryz.pinned (OpenSpec.ofChange serverFullWrong)

/-- 'bagatellelaw06.WorldVersions': WHATEVER THE INPUT: true; the input reads as it did. -/
def worldVersionsSpec : ChangeSpec := { name := "worldVersions", fn := fun _ => fun
  | [d1, d2] => { results := [.lit (.bool true)], args := [d1, d2] }
  | _ => none }
def worldVersionsRow : OpenClaim := { program := "ytbmbakmhnimkfaagreat", sum := "6efcec01c2262ec731f140f0ed593ae4be4b62d117ad8e2a119407ca20d1f197", func := "bagatelle/bagatellelaw06.WorldVersions", spec := "worldVersions", inPlace := ["math/bits.Add64", "math/bits.Sub64"], unfollowed := true, recurses := true, named := ["math/bits.divideError", "math/bits.overflowError"], apart := false }
def WorldVersionsSaid : Prop := worldVersionsRow.holds Tryz.pinned (OpenSpec.ofChange worldVersionsSpec)

/-- ITS FALSE NEIGHBOUR: 'it returns false'. Refute it at one input. -/
def worldVersionsWrong : ChangeSpec := { name := "worldVersions", fn := fun _ => fun
  | [d1, d2] => { results := [.lit (.bool false)], args := [d1, d2] }
  | _ => none }
def WorldVersionsWrongFalsely : Prop := worldVersionsRow.holds Tryz.pinned (OpenSpec.ofChange worldVersionsWrong)

/-- 'bagatellelaw06.WorldDrifts': WHATEVER THE INPUT: true; the input reads as it did. -/
def worldDriftsSpec : ChangeSpec := { name := "worldDrifts", fn := fun _ => fun
  | [d1, d2] => { results := [.lit (.bool true)], args := [d1, d2] }
  | _ => none }
def worldDriftsRow : OpenClaim := { program := "ytbmbakmhnimkfaagreat", sum := "6efcec01c2262ec731f140f0ed593ae4be4b62d117ad8e2a119407ca20d1f197", func := "bagatelle/bagatellelaw06.WorldDrifts", spec := "worldDrifts", inPlace := ["math/bits.Add64", "math/bits.Sub64"], unfollowed := true, recurses := true, named := ["math/bits.divideError", "math/bits.overflowError"], apart := false }
def WorldDriftsSaid : Prop := worldDriftsRow.holds Tryz.pinned (OpenSpec.ofChange worldDriftsSpec)

/-- ITS FALSE NEIGHBOUR: 'it returns false'. Refute it at one input. -/
def worldDriftsWrong : ChangeSpec := { name := "worldDrifts", fn := fun _ => fun
  | [d1, d2] => { results := [.lit (.bool false)], args := [d1, d2] }
  | _ => none }
def WorldDriftsWrongFalsely : Prop := worldDriftsRow.holds Tryz.pinned (OpenSpec.ofChange worldDriftsWrong)

/- THE SECOND FORM. 'bulk': how many values and letters a reading holds, each counted each time it is reached (what is shared counts as often as it is met; a slice's spare places count too). A statement '..UptoSaid' is the law's where the arguments, and the package variables that the reading takes, are together of bulk at most 1048576: NARROWER than '..Said'. Prove '..Said' where nothing that the law and all that it calls make is longer than what came in: it says more and counts as full. Else prove '..UptoSaid'. A law counts once. -/
mutual
def uptoBulk {H : Type} : DataW H → Nat
  | .lit (.string bytes) => bytes.length + 1
  | .lit _ => 1
  | .nil => 1
  | .ptr d => uptoBulk d + 1
  | .slice elems spare => uptoBulkAll elems + uptoBulkAll spare + 1
  | .agg parts => uptoBulkAll parts + 1
  | .iface _ d => uptoBulk d + 1
  | .map entries => uptoBulkEntries entries + 1
  | .held _ => 1
def uptoBulkAll {H : Type} : List (DataW H) → Nat
  | [] => 0
  | d :: r => uptoBulk d + uptoBulkAll r
def uptoBulkEntries {H : Type} : List (Lit × DataW H) → Nat
  | [] => 0
  | x :: r => uptoBulkEntry x + uptoBulkEntries r
def uptoBulkEntry {H : Type} : Lit × DataW H → Nat
  | (.string bytes, d) => bytes.length + uptoBulk d + 1
  | (_, d) => uptoBulk d + 1
 end
def uptoSmall : (H : Type) → List (DataW H) → Bool := fun _ ds => decide (uptoBulkAll ds ≤ 1048576)
def OpenSpec.upto (s : _root_.Go.ChangeSpec) : _root_.Go.OpenSpec := { _root_.Go.OpenSpec.ofChange s with cond := some uptoSmall }

/-- 'bagatellelaw09.ServerFull', WHERE WHAT IT READS IS OF BULK AT MOST 1048576: true; the input reads as it did. -/
def serverFullUptoRow : OpenClaim := { program := "ytbmbakmhnimkfaagreat", sum := "6efcec01c2262ec731f140f0ed593ae4be4b62d117ad8e2a119407ca20d1f197", func := "bagatelle/bagatellelaw09.ServerFull", spec := "serverFull", inPlace := ["maps.clone", "math/bits.Add64", "math/bits.Sub64"], unfollowed := true, recurses := true, named := ["math/bits.divideError", "math/bits.overflowError"], apart := false, narrowed := true }
def ServerFullUptoSaid : Prop := serverFullUptoRow.holds Tryz.pinned (OpenSpec.upto serverFullSpec)

/-- 'bagatellelaw06.WorldVersions', WHERE WHAT IT READS IS OF BULK AT MOST 1048576: true; the input reads as it did. -/
def worldVersionsUptoRow : OpenClaim := { program := "ytbmbakmhnimkfaagreat", sum := "6efcec01c2262ec731f140f0ed593ae4be4b62d117ad8e2a119407ca20d1f197", func := "bagatelle/bagatellelaw06.WorldVersions", spec := "worldVersions", inPlace := ["math/bits.Add64", "math/bits.Sub64"], unfollowed := true, recurses := true, named := ["math/bits.divideError", "math/bits.overflowError"], apart := false, narrowed := true }
def WorldVersionsUptoSaid : Prop := worldVersionsUptoRow.holds Tryz.pinned (OpenSpec.upto worldVersionsSpec)

/-- 'bagatellelaw06.WorldDrifts', WHERE WHAT IT READS IS OF BULK AT MOST 1048576: true; the input reads as it did. -/
def worldDriftsUptoRow : OpenClaim := { program := "ytbmbakmhnimkfaagreat", sum := "6efcec01c2262ec731f140f0ed593ae4be4b62d117ad8e2a119407ca20d1f197", func := "bagatelle/bagatellelaw06.WorldDrifts", spec := "worldDrifts", inPlace := ["math/bits.Add64", "math/bits.Sub64"], unfollowed := true, recurses := true, named := ["math/bits.divideError", "math/bits.overflowError"], apart := false, narrowed := true }
def WorldDriftsUptoSaid : Prop := worldDriftsUptoRow.holds Tryz.pinned (OpenSpec.upto worldDriftsSpec)

end Rows
end Go.Proofs.YtbmbakmhnimkfaaGreat
