/-
  No cell of these rows narrows 'for every input' (looked for: loops, veiled, ifaces, maps, wideKeys, modest, calm, conditions, laid).
  DERIVED. THE GIVEN ROWS OF THIS SEAT. 3 by the template 'for every input the law returns true; each argument reads behind the call as it read before'; 0 by the template 'total and deterministic' (their statements: YtdkacdfhapgboaaGreatTotals.lean).
  GIVEN WITH THE SEED: the statements are not yours to turn. If you find one false, say at which input.
  Laid BY PROGRAM, IN A SANDBOX (cutbox-rows.mjs): the forced cells as the released guide's own fill.sh prints them over the translation f64c62a589d3d397… (all of the seat's roots in one cut). By AI agents, Wed Nov 11 2026. No macro, syntax, notation, axiom, sorry.
-/
import Derived.Test.YtdkacdfhapgboaaGreatChecked
import GoSem.Claim
import GoSem.ClaimJoined
import GoSem.ClaimMapViews
import Derived.JoinedTies
import Derived.KernelRfl
namespace Go.Proofs.YtdkacdfhapgboaaGreat
/- THE CELL 'sum', in the pinned program and in every row, IS THE sha256 OF THE DUMP (.gsa) THAT YtdkacdfhapgboaaGreatProg.lean LOADS. Nothing in Lean hashes anything: it is a label: what it is worth is what the hold of that sum in a sandbox is worth. -/
noncomputable def Tryz.pinned : Pinned := { name := "ytdkacdfhapgboaagreat", sum := "f64c62a589d3d3971bea1c9eee525a54d249f5836f8cf4f480dc49893a5ebfd8", checked := Tryz.checked }
namespace Rows
def none {H : Type} : Left H := { results := [], args := [] }

/-- 'candlinglaw33.SimCaches': WHATEVER THE INPUT: true; the input reads as it did. -/
def simCachesSpec : ChangeSpec := { name := "simCaches", fn := fun _ => fun
  | [d1, d2, d3, d4, d5] => { results := [.lit (.bool true)], args := [d1, d2, d3, d4, d5] }
  | _ => none }
def simCachesRow : OpenClaim := { program := "ytdkacdfhapgboaagreat", sum := "f64c62a589d3d3971bea1c9eee525a54d249f5836f8cf4f480dc49893a5ebfd8", func := "candling/candlinglaw33.SimCaches", spec := "simCaches", inPlace := ["slices.overlaps[uint32]", "slices.overlaps[candling/api.SimCount]"], unfollowed := true, recurses := true, apart := false }
def SimCachesSaid : Prop := simCachesRow.holds Tryz.pinned (OpenSpec.ofChange simCachesSpec)

/-- ITS FALSE NEIGHBOUR: 'it returns false'. Refute it at one input. -/
def simCachesWrong : ChangeSpec := { name := "simCaches", fn := fun _ => fun
  | [d1, d2, d3, d4, d5] => { results := [.lit (.bool false)], args := [d1, d2, d3, d4, d5] }
  | _ => none }
def SimCachesWrongFalsely : Prop := simCachesRow.holds Tryz.pinned (OpenSpec.ofChange simCachesWrong)

/-- 'candlinglaw33.SimPreds': WHATEVER THE INPUT: true; the input reads as it did. -/
def simPredsSpec : ChangeSpec := { name := "simPreds", fn := fun _ => fun
  | [d1, d2, d3, d4, d5] => { results := [.lit (.bool true)], args := [d1, d2, d3, d4, d5] }
  | _ => none }
def simPredsRow : OpenClaim := { program := "ytdkacdfhapgboaagreat", sum := "f64c62a589d3d3971bea1c9eee525a54d249f5836f8cf4f480dc49893a5ebfd8", func := "candling/candlinglaw33.SimPreds", spec := "simPreds", inPlace := ["slices.overlaps[uint32]", "slices.overlaps[candling/api.SimCount]"], unfollowed := true, recurses := true, apart := false }
def SimPredsSaid : Prop := simPredsRow.holds Tryz.pinned (OpenSpec.ofChange simPredsSpec)

/-- ITS FALSE NEIGHBOUR: 'it returns false'. Refute it at one input. -/
def simPredsWrong : ChangeSpec := { name := "simPreds", fn := fun _ => fun
  | [d1, d2, d3, d4, d5] => { results := [.lit (.bool false)], args := [d1, d2, d3, d4, d5] }
  | _ => none }
def SimPredsWrongFalsely : Prop := simPredsRow.holds Tryz.pinned (OpenSpec.ofChange simPredsWrong)

/-- 'candlinglaw33.SimFeeds': WHATEVER THE INPUT: true; the input reads as it did. -/
def simFeedsSpec : ChangeSpec := { name := "simFeeds", fn := fun _ => fun
  | [d1, d2, d3, d4] => { results := [.lit (.bool true)], args := [d1, d2, d3, d4] }
  | _ => none }
def simFeedsRow : OpenClaim := { program := "ytdkacdfhapgboaagreat", sum := "f64c62a589d3d3971bea1c9eee525a54d249f5836f8cf4f480dc49893a5ebfd8", func := "candling/candlinglaw33.SimFeeds", spec := "simFeeds", inPlace := ["slices.overlaps[uint32]", "slices.overlaps[candling/api.SimCount]"], unfollowed := true, recurses := true, apart := false }
def SimFeedsSaid : Prop := simFeedsRow.holds Tryz.pinned (OpenSpec.ofChange simFeedsSpec)

/-- ITS FALSE NEIGHBOUR: 'it returns false'. Refute it at one input. -/
def simFeedsWrong : ChangeSpec := { name := "simFeeds", fn := fun _ => fun
  | [d1, d2, d3, d4] => { results := [.lit (.bool false)], args := [d1, d2, d3, d4] }
  | _ => none }
def SimFeedsWrongFalsely : Prop := simFeedsRow.holds Tryz.pinned (OpenSpec.ofChange simFeedsWrong)

/- THE SECOND FORM. 'bulk': how many values and letters a reading holds, each counted each time it is reached (what is shared counts as often as it is met; a slice's spare places count too). A statement '..UptoSaid' is the law's where the arguments, and the package variables that the reading takes, are together of bulk at most 1048576: NARROWER than '..Said'. Prove '..Said' where nothing that the law and all that it calls make is longer than what came in: it says more and counts as full. Else prove '..UptoSaid'. A law counts once. -/
mutual
def uptoBulk {H : Type} : DataW H → Nat
  | .lit (.string bytes) => bytes.length + 1
  | .lit _ => 1
  | .nil => 1
  | .ptr d => uptoBulk d + 1
  | .slice elems spare => uptoBulkAll elems + uptoBulkAll spare + 1
  | .agg parts => uptoBulkAll parts + 1
  | .iface _ d => uptoBulk d + 1
  | .map entries => uptoBulkEntries entries + 1
  | .held _ => 1
def uptoBulkAll {H : Type} : List (DataW H) → Nat
  | [] => 0
  | d :: r => uptoBulk d + uptoBulkAll r
def uptoBulkEntries {H : Type} : List (Lit × DataW H) → Nat
  | [] => 0
  | x :: r => uptoBulkEntry x + uptoBulkEntries r
def uptoBulkEntry {H : Type} : Lit × DataW H → Nat
  | (.string bytes, d) => bytes.length + uptoBulk d + 1
  | (_, d) => uptoBulk d + 1
 end
def uptoSmall : (H : Type) → List (DataW H) → Bool := fun _ ds => decide (uptoBulkAll ds ≤ 1048576)
def OpenSpec.upto (s : _root_.Go.ChangeSpec) : _root_.Go.OpenSpec := { _root_.Go.OpenSpec.ofChange s with cond := some uptoSmall }

/-- 'candlinglaw33.SimCaches', WHERE WHAT IT READS IS OF BULK AT MOST 1048576: true; the input reads as it did. -/
def simCachesUptoRow : OpenClaim := { program := "ytdkacdfhapgboaagreat", sum := "f64c62a589d3d3971bea1c9eee525a54d249f5836f8cf4f480dc49893a5ebfd8", func := "candling/candlinglaw33.SimCaches", spec := "simCaches", inPlace := ["slices.overlaps[uint32]", "slices.overlaps[candling/api.SimCount]"], unfollowed := true, recurses := true, apart := false, narrowed := true }
def SimCachesUptoSaid : Prop := simCachesUptoRow.holds Tryz.pinned (OpenSpec.upto simCachesSpec)

/-- 'candlinglaw33.SimPreds', WHERE WHAT IT READS IS OF BULK AT MOST 1048576: true; the input reads as it did. -/
def simPredsUptoRow : OpenClaim := { program := "ytdkacdfhapgboaagreat", sum := "f64c62a589d3d3971bea1c9eee525a54d249f5836f8cf4f480dc49893a5ebfd8", func := "candling/candlinglaw33.SimPreds", spec := "simPreds", inPlace := ["slices.overlaps[uint32]", "slices.overlaps[candling/api.SimCount]"], unfollowed := true, recurses := true, apart := false, narrowed := true }
def SimPredsUptoSaid : Prop := simPredsUptoRow.holds Tryz.pinned (OpenSpec.upto simPredsSpec)

/-- 'candlinglaw33.SimFeeds', WHERE WHAT IT READS IS OF BULK AT MOST 1048576: true; the input reads as it did. -/
def simFeedsUptoRow : OpenClaim := { program := "ytdkacdfhapgboaagreat", sum := "f64c62a589d3d3971bea1c9eee525a54d249f5836f8cf4f480dc49893a5ebfd8", func := "candling/candlinglaw33.SimFeeds", spec := "simFeeds", inPlace := ["slices.overlaps[uint32]", "slices.overlaps[candling/api.SimCount]"], unfollowed := true, recurses := true, apart := false, narrowed := true }
def SimFeedsUptoSaid : Prop := simFeedsUptoRow.holds Tryz.pinned (OpenSpec.upto simFeedsSpec)

end Rows
end Go.Proofs.YtdkacdfhapgboaaGreat
