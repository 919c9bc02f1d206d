/-
  No cell of these rows narrows 'for every input' (looked for: loops, veiled, ifaces, maps, wideKeys, modest, calm, conditions, laid).
  DERIVED. THE GIVEN ROWS OF THIS SEAT. 9 by the template 'for every input the law returns true; each argument reads behind the call as it read before'; 0 by the template 'total and deterministic' (their statements: YtidojcogojchpaaTotals.lean).
  GIVEN WITH THE SEED: the statements are not yours to turn. If you find one false, say at which input.
  Laid BY PROGRAM, IN A SANDBOX (cutbox-rows.mjs): the forced cells as the released guide's own fill.sh prints them over the translation 23c3aa5a48ac0401… (all of the seat's roots in one cut). By AI agents, Wed Nov 11 2026. No macro, syntax, notation, axiom, sorry.
-/
import Derived.Test.YtidojcogojchpaaChecked
import GoSem.Claim
import GoSem.ClaimJoined
import GoSem.ClaimMapViews
import Derived.JoinedTies
import Derived.KernelRfl
namespace Go.Proofs.Ytidojcogojchpaa
/- THE CELL 'sum', in the pinned program and in every row, IS THE sha256 OF THE DUMP (.gsa) THAT YtidojcogojchpaaProg.lean LOADS. Nothing in Lean hashes anything: it is a label: what it is worth is what the hold of that sum in a sandbox is worth. -/
noncomputable def Try.pinned : Pinned := { name := "ytidojcogojchpaa", sum := "23c3aa5a48ac04017bdbdb90212f34b62ce9901af47cfd832ec0a63472fb1696", checked := Try.checked }
namespace Rows
def none {H : Type} : Left H := { results := [], args := [] }

/-- 'candlinglaw05.MemDiffs': WHATEVER THE INPUT: true; the input reads as it did. -/
def memDiffsSpec : ChangeSpec := { name := "memDiffs", fn := fun _ => fun
  | [d1, d2] => { results := [.lit (.bool true)], args := [d1, d2] }
  | _ => none }
def memDiffsRow : OpenClaim := { program := "ytidojcogojchpaa", sum := "23c3aa5a48ac04017bdbdb90212f34b62ce9901af47cfd832ec0a63472fb1696", func := "candling/candlinglaw05.MemDiffs", spec := "memDiffs", inPlace := ["maps.clone"], unfollowed := true, recurses := true, apart := false }
def MemDiffsSaid : Prop := memDiffsRow.holds Try.pinned (OpenSpec.ofChange memDiffsSpec)

/-- ITS FALSE NEIGHBOUR: 'it returns false'. Refute it at one input. -/
def memDiffsWrong : ChangeSpec := { name := "memDiffs", fn := fun _ => fun
  | [d1, d2] => { results := [.lit (.bool false)], args := [d1, d2] }
  | _ => none }
def MemDiffsWrongFalsely : Prop := memDiffsRow.holds Try.pinned (OpenSpec.ofChange memDiffsWrong)

/-- 'candlinglaw05.MemWhole': WHATEVER THE INPUT: true; the input reads as it did. -/
def memWholeSpec : ChangeSpec := { name := "memWhole", fn := fun _ => fun
  | [d1, d2, d3] => { results := [.lit (.bool true)], args := [d1, d2, d3] }
  | _ => none }
def memWholeRow : OpenClaim := { program := "ytidojcogojchpaa", sum := "23c3aa5a48ac04017bdbdb90212f34b62ce9901af47cfd832ec0a63472fb1696", func := "candling/candlinglaw05.MemWhole", spec := "memWhole", inPlace := ["maps.clone"], unfollowed := true, recurses := true, apart := false }
def MemWholeSaid : Prop := memWholeRow.holds Try.pinned (OpenSpec.ofChange memWholeSpec)

/-- ITS FALSE NEIGHBOUR: 'it returns false'. Refute it at one input. -/
def memWholeWrong : ChangeSpec := { name := "memWhole", fn := fun _ => fun
  | [d1, d2, d3] => { results := [.lit (.bool false)], args := [d1, d2, d3] }
  | _ => none }
def MemWholeWrongFalsely : Prop := memWholeRow.holds Try.pinned (OpenSpec.ofChange memWholeWrong)

/-- 'candlinglaw05.MemRights': WHATEVER THE INPUT: true; the input reads as it did. -/
def memRightsSpec : ChangeSpec := { name := "memRights", fn := fun _ => fun
  | [d1, d2, d3, d4, d5] => { results := [.lit (.bool true)], args := [d1, d2, d3, d4, d5] }
  | _ => none }
def memRightsRow : OpenClaim := { program := "ytidojcogojchpaa", sum := "23c3aa5a48ac04017bdbdb90212f34b62ce9901af47cfd832ec0a63472fb1696", func := "candling/candlinglaw05.MemRights", spec := "memRights", inPlace := ["maps.clone"], unfollowed := true, recurses := true, apart := false }
def MemRightsSaid : Prop := memRightsRow.holds Try.pinned (OpenSpec.ofChange memRightsSpec)

/-- ITS FALSE NEIGHBOUR: 'it returns false'. Refute it at one input. -/
def memRightsWrong : ChangeSpec := { name := "memRights", fn := fun _ => fun
  | [d1, d2, d3, d4, d5] => { results := [.lit (.bool false)], args := [d1, d2, d3, d4, d5] }
  | _ => none }
def MemRightsWrongFalsely : Prop := memRightsRow.holds Try.pinned (OpenSpec.ofChange memRightsWrong)

/-- 'candlinglaw05.MemBack': WHATEVER THE INPUT: true; the input reads as it did. -/
def memBackSpec : ChangeSpec := { name := "memBack", fn := fun _ => fun
  | [d1, d2] => { results := [.lit (.bool true)], args := [d1, d2] }
  | _ => none }
def memBackRow : OpenClaim := { program := "ytidojcogojchpaa", sum := "23c3aa5a48ac04017bdbdb90212f34b62ce9901af47cfd832ec0a63472fb1696", func := "candling/candlinglaw05.MemBack", spec := "memBack", inPlace := ["maps.clone"], unfollowed := true, recurses := true, apart := false }
def MemBackSaid : Prop := memBackRow.holds Try.pinned (OpenSpec.ofChange memBackSpec)

/-- ITS FALSE NEIGHBOUR: 'it returns false'. Refute it at one input. -/
def memBackWrong : ChangeSpec := { name := "memBack", fn := fun _ => fun
  | [d1, d2] => { results := [.lit (.bool false)], args := [d1, d2] }
  | _ => none }
def MemBackWrongFalsely : Prop := memBackRow.holds Try.pinned (OpenSpec.ofChange memBackWrong)

/-- 'candlinglaw05.MemClones': WHATEVER THE INPUT: true; the input reads as it did. -/
def memClonesSpec : ChangeSpec := { name := "memClones", fn := fun _ => fun
  | [d1, d2] => { results := [.lit (.bool true)], args := [d1, d2] }
  | _ => none }
def memClonesRow : OpenClaim := { program := "ytidojcogojchpaa", sum := "23c3aa5a48ac04017bdbdb90212f34b62ce9901af47cfd832ec0a63472fb1696", func := "candling/candlinglaw05.MemClones", spec := "memClones", inPlace := ["maps.clone"], unfollowed := true, recurses := true, apart := false }
def MemClonesSaid : Prop := memClonesRow.holds Try.pinned (OpenSpec.ofChange memClonesSpec)

/-- ITS FALSE NEIGHBOUR: 'it returns false'. Refute it at one input. -/
def memClonesWrong : ChangeSpec := { name := "memClones", fn := fun _ => fun
  | [d1, d2] => { results := [.lit (.bool false)], args := [d1, d2] }
  | _ => none }
def MemClonesWrongFalsely : Prop := memClonesRow.holds Try.pinned (OpenSpec.ofChange memClonesWrong)

/-- 'candlinglaw05.MemPieces': WHATEVER THE INPUT: true; the input reads as it did. -/
def memPiecesSpec : ChangeSpec := { name := "memPieces", fn := fun _ => fun
  | [d1, d2, d3, d4] => { results := [.lit (.bool true)], args := [d1, d2, d3, d4] }
  | _ => none }
def memPiecesRow : OpenClaim := { program := "ytidojcogojchpaa", sum := "23c3aa5a48ac04017bdbdb90212f34b62ce9901af47cfd832ec0a63472fb1696", func := "candling/candlinglaw05.MemPieces", spec := "memPieces", inPlace := ["maps.clone"], unfollowed := true, recurses := true, apart := false }
def MemPiecesSaid : Prop := memPiecesRow.holds Try.pinned (OpenSpec.ofChange memPiecesSpec)

/-- ITS FALSE NEIGHBOUR: 'it returns false'. Refute it at one input. -/
def memPiecesWrong : ChangeSpec := { name := "memPieces", fn := fun _ => fun
  | [d1, d2, d3, d4] => { results := [.lit (.bool false)], args := [d1, d2, d3, d4] }
  | _ => none }
def MemPiecesWrongFalsely : Prop := memPiecesRow.holds Try.pinned (OpenSpec.ofChange memPiecesWrong)

/-- 'candlinglaw05.MemCalls': WHATEVER THE INPUT: true; the input reads as it did. -/
def memCallsSpec : ChangeSpec := { name := "memCalls", fn := fun _ => fun
  | [d] => { results := [.lit (.bool true)], args := [d] }
  | _ => none }
def memCallsRow : OpenClaim := { program := "ytidojcogojchpaa", sum := "23c3aa5a48ac04017bdbdb90212f34b62ce9901af47cfd832ec0a63472fb1696", func := "candling/candlinglaw05.MemCalls", spec := "memCalls", inPlace := ["maps.clone"], unfollowed := true, recurses := true, apart := false }
def MemCallsSaid : Prop := memCallsRow.holds Try.pinned (OpenSpec.ofChange memCallsSpec)

/-- ITS FALSE NEIGHBOUR: 'it returns false'. Refute it at one input. -/
def memCallsWrong : ChangeSpec := { name := "memCalls", fn := fun _ => fun
  | [d] => { results := [.lit (.bool false)], args := [d] }
  | _ => none }
def MemCallsWrongFalsely : Prop := memCallsRow.holds Try.pinned (OpenSpec.ofChange memCallsWrong)

/-- 'candlinglaw05.MemChanges': WHATEVER THE INPUT: true; the input reads as it did. -/
def memChangesSpec : ChangeSpec := { name := "memChanges", fn := fun _ => fun
  | [d1, d2, d3] => { results := [.lit (.bool true)], args := [d1, d2, d3] }
  | _ => none }
def memChangesRow : OpenClaim := { program := "ytidojcogojchpaa", sum := "23c3aa5a48ac04017bdbdb90212f34b62ce9901af47cfd832ec0a63472fb1696", func := "candling/candlinglaw05.MemChanges", spec := "memChanges", inPlace := ["maps.clone"], unfollowed := true, recurses := true, apart := false }
def MemChangesSaid : Prop := memChangesRow.holds Try.pinned (OpenSpec.ofChange memChangesSpec)

/-- ITS FALSE NEIGHBOUR: 'it returns false'. Refute it at one input. -/
def memChangesWrong : ChangeSpec := { name := "memChanges", fn := fun _ => fun
  | [d1, d2, d3] => { results := [.lit (.bool false)], args := [d1, d2, d3] }
  | _ => none }
def MemChangesWrongFalsely : Prop := memChangesRow.holds Try.pinned (OpenSpec.ofChange memChangesWrong)

/-- 'candlinglaw05.MemBytes': WHATEVER THE INPUT: true; the input reads as it did. -/
def memBytesSpec : ChangeSpec := { name := "memBytes", fn := fun _ => fun
  | [d1, d2, d3] => { results := [.lit (.bool true)], args := [d1, d2, d3] }
  | _ => none }
def memBytesRow : OpenClaim := { program := "ytidojcogojchpaa", sum := "23c3aa5a48ac04017bdbdb90212f34b62ce9901af47cfd832ec0a63472fb1696", func := "candling/candlinglaw05.MemBytes", spec := "memBytes", inPlace := ["maps.clone", "slices.overlaps[candling/candlinglaw05.cell]"], unfollowed := true, recurses := true, apart := false }
def MemBytesSaid : Prop := memBytesRow.holds Try.pinned (OpenSpec.ofChange memBytesSpec)

/-- ITS FALSE NEIGHBOUR: 'it returns false'. Refute it at one input. -/
def memBytesWrong : ChangeSpec := { name := "memBytes", fn := fun _ => fun
  | [d1, d2, d3] => { results := [.lit (.bool false)], args := [d1, d2, d3] }
  | _ => none }
def MemBytesWrongFalsely : Prop := memBytesRow.holds Try.pinned (OpenSpec.ofChange memBytesWrong)

/- THE SECOND FORM. 'bulk': how many values and letters a reading holds, each counted each time it is reached (what is shared counts as often as it is met; a slice's spare places count too). A statement '..UptoSaid' is the law's where the arguments, and the package variables that the reading takes, are together of bulk at most 1048576: NARROWER than '..Said'. Prove '..Said' where nothing that the law and all that it calls make is longer than what came in: it says more and counts as full. Else prove '..UptoSaid'. A law counts once. -/
mutual
def uptoBulk {H : Type} : DataW H → Nat
  | .lit (.string bytes) => bytes.length + 1
  | .lit _ => 1
  | .nil => 1
  | .ptr d => uptoBulk d + 1
  | .slice elems spare => uptoBulkAll elems + uptoBulkAll spare + 1
  | .agg parts => uptoBulkAll parts + 1
  | .iface _ d => uptoBulk d + 1
  | .map entries => uptoBulkEntries entries + 1
  | .held _ => 1
def uptoBulkAll {H : Type} : List (DataW H) → Nat
  | [] => 0
  | d :: r => uptoBulk d + uptoBulkAll r
def uptoBulkEntries {H : Type} : List (Lit × DataW H) → Nat
  | [] => 0
  | x :: r => uptoBulkEntry x + uptoBulkEntries r
def uptoBulkEntry {H : Type} : Lit × DataW H → Nat
  | (.string bytes, d) => bytes.length + uptoBulk d + 1
  | (_, d) => uptoBulk d + 1
 end
def uptoSmall : (H : Type) → List (DataW H) → Bool := fun _ ds => decide (uptoBulkAll ds ≤ 1048576)
def OpenSpec.upto (s : _root_.Go.ChangeSpec) : _root_.Go.OpenSpec := { _root_.Go.OpenSpec.ofChange s with cond := some uptoSmall }

/-- 'candlinglaw05.MemDiffs', WHERE WHAT IT READS IS OF BULK AT MOST 1048576: true; the input reads as it did. -/
def memDiffsUptoRow : OpenClaim := { program := "ytidojcogojchpaa", sum := "23c3aa5a48ac04017bdbdb90212f34b62ce9901af47cfd832ec0a63472fb1696", func := "candling/candlinglaw05.MemDiffs", spec := "memDiffs", inPlace := ["maps.clone"], unfollowed := true, recurses := true, apart := false, narrowed := true }
def MemDiffsUptoSaid : Prop := memDiffsUptoRow.holds Try.pinned (OpenSpec.upto memDiffsSpec)

/-- 'candlinglaw05.MemWhole', WHERE WHAT IT READS IS OF BULK AT MOST 1048576: true; the input reads as it did. -/
def memWholeUptoRow : OpenClaim := { program := "ytidojcogojchpaa", sum := "23c3aa5a48ac04017bdbdb90212f34b62ce9901af47cfd832ec0a63472fb1696", func := "candling/candlinglaw05.MemWhole", spec := "memWhole", inPlace := ["maps.clone"], unfollowed := true, recurses := true, apart := false, narrowed := true }
def MemWholeUptoSaid : Prop := memWholeUptoRow.holds Try.pinned (OpenSpec.upto memWholeSpec)

/-- 'candlinglaw05.MemRights', WHERE WHAT IT READS IS OF BULK AT MOST 1048576: true; the input reads as it did. -/
def memRightsUptoRow : OpenClaim := { program := "ytidojcogojchpaa", sum := "23c3aa5a48ac04017bdbdb90212f34b62ce9901af47cfd832ec0a63472fb1696", func := "candling/candlinglaw05.MemRights", spec := "memRights", inPlace := ["maps.clone"], unfollowed := true, recurses := true, apart := false, narrowed := true }
def MemRightsUptoSaid : Prop := memRightsUptoRow.holds Try.pinned (OpenSpec.upto memRightsSpec)

/-- 'candlinglaw05.MemBack', WHERE WHAT IT READS IS OF BULK AT MOST 1048576: true; the input reads as it did. -/
def memBackUptoRow : OpenClaim := { program := "ytidojcogojchpaa", sum := "23c3aa5a48ac04017bdbdb90212f34b62ce9901af47cfd832ec0a63472fb1696", func := "candling/candlinglaw05.MemBack", spec := "memBack", inPlace := ["maps.clone"], unfollowed := true, recurses := true, apart := false, narrowed := true }
def MemBackUptoSaid : Prop := memBackUptoRow.holds Try.pinned (OpenSpec.upto memBackSpec)

/-- 'candlinglaw05.MemClones', WHERE WHAT IT READS IS OF BULK AT MOST 1048576: true; the input reads as it did. -/
def memClonesUptoRow : OpenClaim := { program := "ytidojcogojchpaa", sum := "23c3aa5a48ac04017bdbdb90212f34b62ce9901af47cfd832ec0a63472fb1696", func := "candling/candlinglaw05.MemClones", spec := "memClones", inPlace := ["maps.clone"], unfollowed := true, recurses := true, apart := false, narrowed := true }
def MemClonesUptoSaid : Prop := memClonesUptoRow.holds Try.pinned (OpenSpec.upto memClonesSpec)

/-- 'candlinglaw05.MemPieces', WHERE WHAT IT READS IS OF BULK AT MOST 1048576: true; the input reads as it did. -/
def memPiecesUptoRow : OpenClaim := { program := "ytidojcogojchpaa", sum := "23c3aa5a48ac04017bdbdb90212f34b62ce9901af47cfd832ec0a63472fb1696", func := "candling/candlinglaw05.MemPieces", spec := "memPieces", inPlace := ["maps.clone"], unfollowed := true, recurses := true, apart := false, narrowed := true }
def MemPiecesUptoSaid : Prop := memPiecesUptoRow.holds Try.pinned (OpenSpec.upto memPiecesSpec)

/-- 'candlinglaw05.MemCalls', WHERE WHAT IT READS IS OF BULK AT MOST 1048576: true; the input reads as it did. -/
def memCallsUptoRow : OpenClaim := { program := "ytidojcogojchpaa", sum := "23c3aa5a48ac04017bdbdb90212f34b62ce9901af47cfd832ec0a63472fb1696", func := "candling/candlinglaw05.MemCalls", spec := "memCalls", inPlace := ["maps.clone"], unfollowed := true, recurses := true, apart := false, narrowed := true }
def MemCallsUptoSaid : Prop := memCallsUptoRow.holds Try.pinned (OpenSpec.upto memCallsSpec)

/-- 'candlinglaw05.MemChanges', WHERE WHAT IT READS IS OF BULK AT MOST 1048576: true; the input reads as it did. -/
def memChangesUptoRow : OpenClaim := { program := "ytidojcogojchpaa", sum := "23c3aa5a48ac04017bdbdb90212f34b62ce9901af47cfd832ec0a63472fb1696", func := "candling/candlinglaw05.MemChanges", spec := "memChanges", inPlace := ["maps.clone"], unfollowed := true, recurses := true, apart := false, narrowed := true }
def MemChangesUptoSaid : Prop := memChangesUptoRow.holds Try.pinned (OpenSpec.upto memChangesSpec)

/-- 'candlinglaw05.MemBytes', WHERE WHAT IT READS IS OF BULK AT MOST 1048576: true; the input reads as it did. -/
def memBytesUptoRow : OpenClaim := { program := "ytidojcogojchpaa", sum := "23c3aa5a48ac04017bdbdb90212f34b62ce9901af47cfd832ec0a63472fb1696", func := "candling/candlinglaw05.MemBytes", spec := "memBytes", inPlace := ["maps.clone", "slices.overlaps[candling/candlinglaw05.cell]"], unfollowed := true, recurses := true, apart := false, narrowed := true }
def MemBytesUptoSaid : Prop := memBytesUptoRow.holds Try.pinned (OpenSpec.upto memBytesSpec)

end Rows
end Go.Proofs.Ytidojcogojchpaa
