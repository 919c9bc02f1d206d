/-
  No cell of these rows narrows 'for every input' (looked for: loops, veiled, ifaces, maps, wideKeys, modest, calm, conditions, laid).
  DERIVED. THE GIVEN ROWS OF THIS SEAT. 9 by the template 'for every input the law returns true; each argument reads behind the call as it read before'; 0 by the template 'total and deterministic' (their statements: YtdkacdfhapgboaaTotals.lean).
  GIVEN WITH THE SEED: the statements are not yours to turn. If you find one false, say at which input.
  Laid BY PROGRAM, IN A SANDBOX (cutbox-rows.mjs): the forced cells as the released guide's own fill.sh prints them over the translation 1f6000c28ab935fb… (all of the seat's roots in one cut). By AI agents, Wed Nov 11 2026. No macro, syntax, notation, axiom, sorry.
-/
import Derived.Test.YtdkacdfhapgboaaChecked
import GoSem.Claim
import GoSem.ClaimJoined
import GoSem.ClaimMapViews
import Derived.JoinedTies
import Derived.KernelRfl
namespace Go.Proofs.Ytdkacdfhapgboaa
/- THE CELL 'sum', in the pinned program and in every row, IS THE sha256 OF THE DUMP (.gsa) THAT YtdkacdfhapgboaaProg.lean LOADS. Nothing in Lean hashes anything: it is a label: what it is worth is what the hold of that sum in a sandbox is worth. -/
noncomputable def Try.pinned : Pinned := { name := "ytdkacdfhapgboaa", sum := "1f6000c28ab935fbcb60be86896266f669b2bbb06034145edf86c13ada19e42a", checked := Try.checked }
namespace Rows
def none {H : Type} : Left H := { results := [], args := [] }

/-- 'candlinglaw33.SimDistances': WHATEVER THE INPUT: true; the input reads as it did. -/
def simDistancesSpec : ChangeSpec := { name := "simDistances", fn := fun _ => fun
  | [d1, d2, d3, d4] => { results := [.lit (.bool true)], args := [d1, d2, d3, d4] }
  | _ => none }
def simDistancesRow : OpenClaim := { program := "ytdkacdfhapgboaa", sum := "1f6000c28ab935fbcb60be86896266f669b2bbb06034145edf86c13ada19e42a", func := "candling/candlinglaw33.SimDistances", spec := "simDistances", inPlace := ["slices.overlaps[uint32]", "slices.overlaps[candling/api.SimCount]"], unfollowed := true, recurses := true, apart := false }
def SimDistancesSaid : Prop := simDistancesRow.holds Try.pinned (OpenSpec.ofChange simDistancesSpec)

/-- ITS FALSE NEIGHBOUR: 'it returns false'. Refute it at one input. -/
def simDistancesWrong : ChangeSpec := { name := "simDistances", fn := fun _ => fun
  | [d1, d2, d3, d4] => { results := [.lit (.bool false)], args := [d1, d2, d3, d4] }
  | _ => none }
def SimDistancesWrongFalsely : Prop := simDistancesRow.holds Try.pinned (OpenSpec.ofChange simDistancesWrong)

/-- 'candlinglaw33.SimWays': WHATEVER THE INPUT: true; the input reads as it did. -/
def simWaysSpec : ChangeSpec := { name := "simWays", fn := fun _ => fun
  | [d1, d2, d3, d4, d5] => { results := [.lit (.bool true)], args := [d1, d2, d3, d4, d5] }
  | _ => none }
def simWaysRow : OpenClaim := { program := "ytdkacdfhapgboaa", sum := "1f6000c28ab935fbcb60be86896266f669b2bbb06034145edf86c13ada19e42a", func := "candling/candlinglaw33.SimWays", spec := "simWays", inPlace := ["slices.overlaps[uint32]", "slices.overlaps[candling/api.SimCount]"], unfollowed := true, recurses := true, apart := false }
def SimWaysSaid : Prop := simWaysRow.holds Try.pinned (OpenSpec.ofChange simWaysSpec)

/-- ITS FALSE NEIGHBOUR: 'it returns false'. Refute it at one input. -/
def simWaysWrong : ChangeSpec := { name := "simWays", fn := fun _ => fun
  | [d1, d2, d3, d4, d5] => { results := [.lit (.bool false)], args := [d1, d2, d3, d4, d5] }
  | _ => none }
def SimWaysWrongFalsely : Prop := simWaysRow.holds Try.pinned (OpenSpec.ofChange simWaysWrong)

/-- 'candlinglaw33.SimCompetes': WHATEVER THE INPUT: true; the input reads as it did. -/
def simCompetesSpec : ChangeSpec := { name := "simCompetes", fn := fun _ => fun
  | [d1, d2, d3, d4] => { results := [.lit (.bool true)], args := [d1, d2, d3, d4] }
  | _ => none }
def simCompetesRow : OpenClaim := { program := "ytdkacdfhapgboaa", sum := "1f6000c28ab935fbcb60be86896266f669b2bbb06034145edf86c13ada19e42a", func := "candling/candlinglaw33.SimCompetes", spec := "simCompetes", inPlace := ["slices.overlaps[uint32]", "slices.overlaps[candling/api.SimCount]"], unfollowed := true, recurses := true, apart := false }
def SimCompetesSaid : Prop := simCompetesRow.holds Try.pinned (OpenSpec.ofChange simCompetesSpec)

/-- ITS FALSE NEIGHBOUR: 'it returns false'. Refute it at one input. -/
def simCompetesWrong : ChangeSpec := { name := "simCompetes", fn := fun _ => fun
  | [d1, d2, d3, d4] => { results := [.lit (.bool false)], args := [d1, d2, d3, d4] }
  | _ => none }
def SimCompetesWrongFalsely : Prop := simCompetesRow.holds Try.pinned (OpenSpec.ofChange simCompetesWrong)

/-- 'candlinglaw33.SimFirst': WHATEVER THE INPUT: true; the input reads as it did. -/
def simFirstSpec : ChangeSpec := { name := "simFirst", fn := fun _ => fun
  | [d1, d2, d3, d4] => { results := [.lit (.bool true)], args := [d1, d2, d3, d4] }
  | _ => none }
def simFirstRow : OpenClaim := { program := "ytdkacdfhapgboaa", sum := "1f6000c28ab935fbcb60be86896266f669b2bbb06034145edf86c13ada19e42a", func := "candling/candlinglaw33.SimFirst", spec := "simFirst", inPlace := ["slices.overlaps[uint32]", "slices.overlaps[candling/api.SimCount]"], unfollowed := true, recurses := true, apart := false }
def SimFirstSaid : Prop := simFirstRow.holds Try.pinned (OpenSpec.ofChange simFirstSpec)

/-- ITS FALSE NEIGHBOUR: 'it returns false'. Refute it at one input. -/
def simFirstWrong : ChangeSpec := { name := "simFirst", fn := fun _ => fun
  | [d1, d2, d3, d4] => { results := [.lit (.bool false)], args := [d1, d2, d3, d4] }
  | _ => none }
def SimFirstWrongFalsely : Prop := simFirstRow.holds Try.pinned (OpenSpec.ofChange simFirstWrong)

/-- 'candlinglaw33.SimSets': WHATEVER THE INPUT: true; the input reads as it did. -/
def simSetsSpec : ChangeSpec := { name := "simSets", fn := fun _ => fun
  | [d1, d2, d3, d4, d5] => { results := [.lit (.bool true)], args := [d1, d2, d3, d4, d5] }
  | _ => none }
def simSetsRow : OpenClaim := { program := "ytdkacdfhapgboaa", sum := "1f6000c28ab935fbcb60be86896266f669b2bbb06034145edf86c13ada19e42a", func := "candling/candlinglaw33.SimSets", spec := "simSets", inPlace := ["slices.overlaps[uint32]", "slices.overlaps[candling/api.SimCount]"], unfollowed := true, recurses := true, apart := false }
def SimSetsSaid : Prop := simSetsRow.holds Try.pinned (OpenSpec.ofChange simSetsSpec)

/-- ITS FALSE NEIGHBOUR: 'it returns false'. Refute it at one input. -/
def simSetsWrong : ChangeSpec := { name := "simSets", fn := fun _ => fun
  | [d1, d2, d3, d4, d5] => { results := [.lit (.bool false)], args := [d1, d2, d3, d4, d5] }
  | _ => none }
def SimSetsWrongFalsely : Prop := simSetsRow.holds Try.pinned (OpenSpec.ofChange simSetsWrong)

/-- 'candlinglaw33.SimCounters': WHATEVER THE INPUT: true; the input reads as it did. -/
def simCountersSpec : ChangeSpec := { name := "simCounters", fn := fun _ => fun
  | [d1, d2, d3, d4] => { results := [.lit (.bool true)], args := [d1, d2, d3, d4] }
  | _ => none }
def simCountersRow : OpenClaim := { program := "ytdkacdfhapgboaa", sum := "1f6000c28ab935fbcb60be86896266f669b2bbb06034145edf86c13ada19e42a", func := "candling/candlinglaw33.SimCounters", spec := "simCounters", inPlace := ["slices.overlaps[uint32]", "slices.overlaps[candling/api.SimCount]"], unfollowed := true, recurses := true, apart := false }
def SimCountersSaid : Prop := simCountersRow.holds Try.pinned (OpenSpec.ofChange simCountersSpec)

/-- ITS FALSE NEIGHBOUR: 'it returns false'. Refute it at one input. -/
def simCountersWrong : ChangeSpec := { name := "simCounters", fn := fun _ => fun
  | [d1, d2, d3, d4] => { results := [.lit (.bool false)], args := [d1, d2, d3, d4] }
  | _ => none }
def SimCountersWrongFalsely : Prop := simCountersRow.holds Try.pinned (OpenSpec.ofChange simCountersWrong)

/-- 'candlinglaw33.SimNested': WHATEVER THE INPUT: true; the input reads as it did. -/
def simNestedSpec : ChangeSpec := { name := "simNested", fn := fun _ => fun
  | [d1, d2] => { results := [.lit (.bool true)], args := [d1, d2] }
  | _ => none }
def simNestedRow : OpenClaim := { program := "ytdkacdfhapgboaa", sum := "1f6000c28ab935fbcb60be86896266f669b2bbb06034145edf86c13ada19e42a", func := "candling/candlinglaw33.SimNested", spec := "simNested", inPlace := ["slices.overlaps[uint32]", "slices.overlaps[candling/api.SimCount]"], unfollowed := true, recurses := true, apart := false }
def SimNestedSaid : Prop := simNestedRow.holds Try.pinned (OpenSpec.ofChange simNestedSpec)

/-- ITS FALSE NEIGHBOUR: 'it returns false'. Refute it at one input. -/
def simNestedWrong : ChangeSpec := { name := "simNested", fn := fun _ => fun
  | [d1, d2] => { results := [.lit (.bool false)], args := [d1, d2] }
  | _ => none }
def SimNestedWrongFalsely : Prop := simNestedRow.holds Try.pinned (OpenSpec.ofChange simNestedWrong)

/-- 'candlinglaw33.SimParts': WHATEVER THE INPUT: true; the input reads as it did. -/
def simPartsSpec : ChangeSpec := { name := "simParts", fn := fun _ => fun
  | [d1, d2, d3] => { results := [.lit (.bool true)], args := [d1, d2, d3] }
  | _ => none }
def simPartsRow : OpenClaim := { program := "ytdkacdfhapgboaa", sum := "1f6000c28ab935fbcb60be86896266f669b2bbb06034145edf86c13ada19e42a", func := "candling/candlinglaw33.SimParts", spec := "simParts", inPlace := ["slices.overlaps[uint32]", "slices.overlaps[candling/api.SimCount]"], unfollowed := true, recurses := true, apart := false }
def SimPartsSaid : Prop := simPartsRow.holds Try.pinned (OpenSpec.ofChange simPartsSpec)

/-- ITS FALSE NEIGHBOUR: 'it returns false'. Refute it at one input. -/
def simPartsWrong : ChangeSpec := { name := "simParts", fn := fun _ => fun
  | [d1, d2, d3] => { results := [.lit (.bool false)], args := [d1, d2, d3] }
  | _ => none }
def SimPartsWrongFalsely : Prop := simPartsRow.holds Try.pinned (OpenSpec.ofChange simPartsWrong)

/-- 'candlinglaw33.SimSums': WHATEVER THE INPUT: true; the input reads as it did. -/
def simSumsSpec : ChangeSpec := { name := "simSums", fn := fun _ => fun
  | [d1, d2, d3, d4] => { results := [.lit (.bool true)], args := [d1, d2, d3, d4] }
  | _ => none }
def simSumsRow : OpenClaim := { program := "ytdkacdfhapgboaa", sum := "1f6000c28ab935fbcb60be86896266f669b2bbb06034145edf86c13ada19e42a", func := "candling/candlinglaw33.SimSums", spec := "simSums", inPlace := ["slices.overlaps[uint32]", "slices.overlaps[candling/api.SimCount]"], unfollowed := true, recurses := true, apart := false }
def SimSumsSaid : Prop := simSumsRow.holds Try.pinned (OpenSpec.ofChange simSumsSpec)

/-- ITS FALSE NEIGHBOUR: 'it returns false'. Refute it at one input. -/
def simSumsWrong : ChangeSpec := { name := "simSums", fn := fun _ => fun
  | [d1, d2, d3, d4] => { results := [.lit (.bool false)], args := [d1, d2, d3, d4] }
  | _ => none }
def SimSumsWrongFalsely : Prop := simSumsRow.holds Try.pinned (OpenSpec.ofChange simSumsWrong)

/- THE SECOND FORM. 'bulk': how many values and letters a reading holds, each counted each time it is reached (what is shared counts as often as it is met; a slice's spare places count too). A statement '..UptoSaid' is the law's where the arguments, and the package variables that the reading takes, are together of bulk at most 1048576: NARROWER than '..Said'. Prove '..Said' where nothing that the law and all that it calls make is longer than what came in: it says more and counts as full. Else prove '..UptoSaid'. A law counts once. -/
mutual
def uptoBulk {H : Type} : DataW H → Nat
  | .lit (.string bytes) => bytes.length + 1
  | .lit _ => 1
  | .nil => 1
  | .ptr d => uptoBulk d + 1
  | .slice elems spare => uptoBulkAll elems + uptoBulkAll spare + 1
  | .agg parts => uptoBulkAll parts + 1
  | .iface _ d => uptoBulk d + 1
  | .map entries => uptoBulkEntries entries + 1
  | .held _ => 1
def uptoBulkAll {H : Type} : List (DataW H) → Nat
  | [] => 0
  | d :: r => uptoBulk d + uptoBulkAll r
def uptoBulkEntries {H : Type} : List (Lit × DataW H) → Nat
  | [] => 0
  | x :: r => uptoBulkEntry x + uptoBulkEntries r
def uptoBulkEntry {H : Type} : Lit × DataW H → Nat
  | (.string bytes, d) => bytes.length + uptoBulk d + 1
  | (_, d) => uptoBulk d + 1
 end
def uptoSmall : (H : Type) → List (DataW H) → Bool := fun _ ds => decide (uptoBulkAll ds ≤ 1048576)
def OpenSpec.upto (s : _root_.Go.ChangeSpec) : _root_.Go.OpenSpec := { _root_.Go.OpenSpec.ofChange s with cond := some uptoSmall }

/-- 'candlinglaw33.SimDistances', WHERE WHAT IT READS IS OF BULK AT MOST 1048576: true; the input reads as it did. -/
def simDistancesUptoRow : OpenClaim := { program := "ytdkacdfhapgboaa", sum := "1f6000c28ab935fbcb60be86896266f669b2bbb06034145edf86c13ada19e42a", func := "candling/candlinglaw33.SimDistances", spec := "simDistances", inPlace := ["slices.overlaps[uint32]", "slices.overlaps[candling/api.SimCount]"], unfollowed := true, recurses := true, apart := false, narrowed := true }
def SimDistancesUptoSaid : Prop := simDistancesUptoRow.holds Try.pinned (OpenSpec.upto simDistancesSpec)

/-- 'candlinglaw33.SimWays', WHERE WHAT IT READS IS OF BULK AT MOST 1048576: true; the input reads as it did. -/
def simWaysUptoRow : OpenClaim := { program := "ytdkacdfhapgboaa", sum := "1f6000c28ab935fbcb60be86896266f669b2bbb06034145edf86c13ada19e42a", func := "candling/candlinglaw33.SimWays", spec := "simWays", inPlace := ["slices.overlaps[uint32]", "slices.overlaps[candling/api.SimCount]"], unfollowed := true, recurses := true, apart := false, narrowed := true }
def SimWaysUptoSaid : Prop := simWaysUptoRow.holds Try.pinned (OpenSpec.upto simWaysSpec)

/-- 'candlinglaw33.SimCompetes', WHERE WHAT IT READS IS OF BULK AT MOST 1048576: true; the input reads as it did. -/
def simCompetesUptoRow : OpenClaim := { program := "ytdkacdfhapgboaa", sum := "1f6000c28ab935fbcb60be86896266f669b2bbb06034145edf86c13ada19e42a", func := "candling/candlinglaw33.SimCompetes", spec := "simCompetes", inPlace := ["slices.overlaps[uint32]", "slices.overlaps[candling/api.SimCount]"], unfollowed := true, recurses := true, apart := false, narrowed := true }
def SimCompetesUptoSaid : Prop := simCompetesUptoRow.holds Try.pinned (OpenSpec.upto simCompetesSpec)

/-- 'candlinglaw33.SimFirst', WHERE WHAT IT READS IS OF BULK AT MOST 1048576: true; the input reads as it did. -/
def simFirstUptoRow : OpenClaim := { program := "ytdkacdfhapgboaa", sum := "1f6000c28ab935fbcb60be86896266f669b2bbb06034145edf86c13ada19e42a", func := "candling/candlinglaw33.SimFirst", spec := "simFirst", inPlace := ["slices.overlaps[uint32]", "slices.overlaps[candling/api.SimCount]"], unfollowed := true, recurses := true, apart := false, narrowed := true }
def SimFirstUptoSaid : Prop := simFirstUptoRow.holds Try.pinned (OpenSpec.upto simFirstSpec)

/-- 'candlinglaw33.SimSets', WHERE WHAT IT READS IS OF BULK AT MOST 1048576: true; the input reads as it did. -/
def simSetsUptoRow : OpenClaim := { program := "ytdkacdfhapgboaa", sum := "1f6000c28ab935fbcb60be86896266f669b2bbb06034145edf86c13ada19e42a", func := "candling/candlinglaw33.SimSets", spec := "simSets", inPlace := ["slices.overlaps[uint32]", "slices.overlaps[candling/api.SimCount]"], unfollowed := true, recurses := true, apart := false, narrowed := true }
def SimSetsUptoSaid : Prop := simSetsUptoRow.holds Try.pinned (OpenSpec.upto simSetsSpec)

/-- 'candlinglaw33.SimCounters', WHERE WHAT IT READS IS OF BULK AT MOST 1048576: true; the input reads as it did. -/
def simCountersUptoRow : OpenClaim := { program := "ytdkacdfhapgboaa", sum := "1f6000c28ab935fbcb60be86896266f669b2bbb06034145edf86c13ada19e42a", func := "candling/candlinglaw33.SimCounters", spec := "simCounters", inPlace := ["slices.overlaps[uint32]", "slices.overlaps[candling/api.SimCount]"], unfollowed := true, recurses := true, apart := false, narrowed := true }
def SimCountersUptoSaid : Prop := simCountersUptoRow.holds Try.pinned (OpenSpec.upto simCountersSpec)

/-- 'candlinglaw33.SimNested', WHERE WHAT IT READS IS OF BULK AT MOST 1048576: true; the input reads as it did. -/
def simNestedUptoRow : OpenClaim := { program := "ytdkacdfhapgboaa", sum := "1f6000c28ab935fbcb60be86896266f669b2bbb06034145edf86c13ada19e42a", func := "candling/candlinglaw33.SimNested", spec := "simNested", inPlace := ["slices.overlaps[uint32]", "slices.overlaps[candling/api.SimCount]"], unfollowed := true, recurses := true, apart := false, narrowed := true }
def SimNestedUptoSaid : Prop := simNestedUptoRow.holds Try.pinned (OpenSpec.upto simNestedSpec)

/-- 'candlinglaw33.SimParts', WHERE WHAT IT READS IS OF BULK AT MOST 1048576: true; the input reads as it did. -/
def simPartsUptoRow : OpenClaim := { program := "ytdkacdfhapgboaa", sum := "1f6000c28ab935fbcb60be86896266f669b2bbb06034145edf86c13ada19e42a", func := "candling/candlinglaw33.SimParts", spec := "simParts", inPlace := ["slices.overlaps[uint32]", "slices.overlaps[candling/api.SimCount]"], unfollowed := true, recurses := true, apart := false, narrowed := true }
def SimPartsUptoSaid : Prop := simPartsUptoRow.holds Try.pinned (OpenSpec.upto simPartsSpec)

/-- 'candlinglaw33.SimSums', WHERE WHAT IT READS IS OF BULK AT MOST 1048576: true; the input reads as it did. -/
def simSumsUptoRow : OpenClaim := { program := "ytdkacdfhapgboaa", sum := "1f6000c28ab935fbcb60be86896266f669b2bbb06034145edf86c13ada19e42a", func := "candling/candlinglaw33.SimSums", spec := "simSums", inPlace := ["slices.overlaps[uint32]", "slices.overlaps[candling/api.SimCount]"], unfollowed := true, recurses := true, apart := false, narrowed := true }
def SimSumsUptoSaid : Prop := simSumsUptoRow.holds Try.pinned (OpenSpec.upto simSumsSpec)

end Rows
end Go.Proofs.Ytdkacdfhapgboaa
