/-
  No cell of these rows narrows 'for every input' (looked for: loops, veiled, ifaces, maps, wideKeys, modest, calm, conditions, laid).
  DERIVED. THE GIVEN ROWS OF THIS SEAT. 11 by the template 'for every input the law returns true; each argument reads behind the call as it read before'; 0 by the template 'total and deterministic' (their statements: YtfddnmibjaibhaaTotals.lean).
  GIVEN WITH THE SEED: the statements are not yours to turn. If you find one false, say at which input.
  Laid BY PROGRAM, IN A SANDBOX (cutbox-rows.mjs): the forced cells as the released guide's own fill.sh prints them over the translation dae9a4d95ef1c252… (all of the seat's roots in one cut). By AI agents, Wed Nov 11 2026. No macro, syntax, notation, axiom, sorry.
-/
import Derived.Test.YtfddnmibjaibhaaChecked
import GoSem.Claim
import GoSem.ClaimJoined
import GoSem.ClaimMapViews
import Derived.JoinedTies
import Derived.KernelRfl
namespace Go.Proofs.Ytfddnmibjaibhaa
/- THE CELL 'sum', in the pinned program and in every row, IS THE sha256 OF THE DUMP (.gsa) THAT YtfddnmibjaibhaaProg.lean LOADS. Nothing in Lean hashes anything: it is a label: what it is worth is what the hold of that sum in a sandbox is worth. -/
noncomputable def Try.pinned : Pinned := { name := "ytfddnmibjaibhaa", sum := "dae9a4d95ef1c252b5e63e914f0188b7c16e1e9a8bb2d92fc132aaae922e8814", checked := Try.checked }
namespace Rows
def none {H : Type} : Left H := { results := [], args := [] }

/-- 'observatorylaw10.SkyMatchesReference': WHATEVER THE INPUT: true; the input reads as it did. -/
def skyMatchesReferenceSpec : ChangeSpec := { name := "skyMatchesReference", fn := fun _ => fun
  | [d1, d2, d3, d4] => { results := [.lit (.bool true)], args := [d1, d2, d3, d4] }
  | _ => none }
def skyMatchesReferenceRow : OpenClaim := { program := "ytfddnmibjaibhaa", sum := "dae9a4d95ef1c252b5e63e914f0188b7c16e1e9a8bb2d92fc132aaae922e8814", func := "observatory/observatorylaw10.SkyMatchesReference", spec := "skyMatchesReference", unfollowed := true, recurses := true, apart := false }
def SkyMatchesReferenceSaid : Prop := skyMatchesReferenceRow.holds Try.pinned (OpenSpec.ofChange skyMatchesReferenceSpec)

/-- ITS FALSE NEIGHBOUR: 'it returns false'. Refute it at one input. -/
def skyMatchesReferenceWrong : ChangeSpec := { name := "skyMatchesReference", fn := fun _ => fun
  | [d1, d2, d3, d4] => { results := [.lit (.bool false)], args := [d1, d2, d3, d4] }
  | _ => none }
def SkyMatchesReferenceWrongFalsely : Prop := skyMatchesReferenceRow.holds Try.pinned (OpenSpec.ofChange skyMatchesReferenceWrong)

/-- 'observatorylaw10.SkyTiles': WHATEVER THE INPUT: true; the input reads as it did. -/
def skyTilesSpec : ChangeSpec := { name := "skyTiles", fn := fun _ => fun
  | [d1, d2, d3, d4] => { results := [.lit (.bool true)], args := [d1, d2, d3, d4] }
  | _ => none }
def skyTilesRow : OpenClaim := { program := "ytfddnmibjaibhaa", sum := "dae9a4d95ef1c252b5e63e914f0188b7c16e1e9a8bb2d92fc132aaae922e8814", func := "observatory/observatorylaw10.SkyTiles", spec := "skyTiles", unfollowed := true, recurses := true, apart := false }
def SkyTilesSaid : Prop := skyTilesRow.holds Try.pinned (OpenSpec.ofChange skyTilesSpec)

/-- ITS FALSE NEIGHBOUR: 'it returns false'. Refute it at one input. -/
def skyTilesWrong : ChangeSpec := { name := "skyTiles", fn := fun _ => fun
  | [d1, d2, d3, d4] => { results := [.lit (.bool false)], args := [d1, d2, d3, d4] }
  | _ => none }
def SkyTilesWrongFalsely : Prop := skyTilesRow.holds Try.pinned (OpenSpec.ofChange skyTilesWrong)

/-- 'observatorylaw10.SkyDistances': WHATEVER THE INPUT: true; the input reads as it did. -/
def skyDistancesSpec : ChangeSpec := { name := "skyDistances", fn := fun _ => fun
  | [d1, d2, d3, d4] => { results := [.lit (.bool true)], args := [d1, d2, d3, d4] }
  | _ => none }
def skyDistancesRow : OpenClaim := { program := "ytfddnmibjaibhaa", sum := "dae9a4d95ef1c252b5e63e914f0188b7c16e1e9a8bb2d92fc132aaae922e8814", func := "observatory/observatorylaw10.SkyDistances", spec := "skyDistances", unfollowed := true, recurses := true, apart := false }
def SkyDistancesSaid : Prop := skyDistancesRow.holds Try.pinned (OpenSpec.ofChange skyDistancesSpec)

/-- ITS FALSE NEIGHBOUR: 'it returns false'. Refute it at one input. -/
def skyDistancesWrong : ChangeSpec := { name := "skyDistances", fn := fun _ => fun
  | [d1, d2, d3, d4] => { results := [.lit (.bool false)], args := [d1, d2, d3, d4] }
  | _ => none }
def SkyDistancesWrongFalsely : Prop := skyDistancesRow.holds Try.pinned (OpenSpec.ofChange skyDistancesWrong)

/-- 'observatorylaw10.SkyNear': WHATEVER THE INPUT: true; the input reads as it did. -/
def skyNearSpec : ChangeSpec := { name := "skyNear", fn := fun _ => fun
  | [d1, d2, d3] => { results := [.lit (.bool true)], args := [d1, d2, d3] }
  | _ => none }
def skyNearRow : OpenClaim := { program := "ytfddnmibjaibhaa", sum := "dae9a4d95ef1c252b5e63e914f0188b7c16e1e9a8bb2d92fc132aaae922e8814", func := "observatory/observatorylaw10.SkyNear", spec := "skyNear", unfollowed := true, recurses := true, apart := false }
def SkyNearSaid : Prop := skyNearRow.holds Try.pinned (OpenSpec.ofChange skyNearSpec)

/-- ITS FALSE NEIGHBOUR: 'it returns false'. Refute it at one input. -/
def skyNearWrong : ChangeSpec := { name := "skyNear", fn := fun _ => fun
  | [d1, d2, d3] => { results := [.lit (.bool false)], args := [d1, d2, d3] }
  | _ => none }
def SkyNearWrongFalsely : Prop := skyNearRow.holds Try.pinned (OpenSpec.ofChange skyNearWrong)

/-- 'observatorylaw38.MergeWindows': WHATEVER THE INPUT: true; the input reads as it did. -/
def mergeWindowsSpec : ChangeSpec := { name := "mergeWindows", fn := fun _ => fun
  | [d1, d2, d3] => { results := [.lit (.bool true)], args := [d1, d2, d3] }
  | _ => none }
def mergeWindowsRow : OpenClaim := { program := "ytfddnmibjaibhaa", sum := "dae9a4d95ef1c252b5e63e914f0188b7c16e1e9a8bb2d92fc132aaae922e8814", func := "observatory/observatorylaw38.MergeWindows", spec := "mergeWindows", unfollowed := true, recurses := true, apart := false }
def MergeWindowsSaid : Prop := mergeWindowsRow.holds Try.pinned (OpenSpec.ofChange mergeWindowsSpec)

/-- ITS FALSE NEIGHBOUR: 'it returns false'. Refute it at one input. -/
def mergeWindowsWrong : ChangeSpec := { name := "mergeWindows", fn := fun _ => fun
  | [d1, d2, d3] => { results := [.lit (.bool false)], args := [d1, d2, d3] }
  | _ => none }
def MergeWindowsWrongFalsely : Prop := mergeWindowsRow.holds Try.pinned (OpenSpec.ofChange mergeWindowsWrong)

/-- 'observatorylaw10.SkySteps': WHATEVER THE INPUT: true; the input reads as it did. -/
def skyStepsSpec : ChangeSpec := { name := "skySteps", fn := fun _ => fun
  | [d1, d2] => { results := [.lit (.bool true)], args := [d1, d2] }
  | _ => none }
def skyStepsRow : OpenClaim := { program := "ytfddnmibjaibhaa", sum := "dae9a4d95ef1c252b5e63e914f0188b7c16e1e9a8bb2d92fc132aaae922e8814", func := "observatory/observatorylaw10.SkySteps", spec := "skySteps", unfollowed := true, recurses := true, apart := false }
def SkyStepsSaid : Prop := skyStepsRow.holds Try.pinned (OpenSpec.ofChange skyStepsSpec)

/-- ITS FALSE NEIGHBOUR: 'it returns false'. Refute it at one input. -/
def skyStepsWrong : ChangeSpec := { name := "skySteps", fn := fun _ => fun
  | [d1, d2] => { results := [.lit (.bool false)], args := [d1, d2] }
  | _ => none }
def SkyStepsWrongFalsely : Prop := skyStepsRow.holds Try.pinned (OpenSpec.ofChange skyStepsWrong)

/-- 'observatorylaw38.MergeAdds': WHATEVER THE INPUT: true; the input reads as it did. -/
def mergeAddsSpec : ChangeSpec := { name := "mergeAdds", fn := fun _ => fun
  | [d1, d2, d3] => { results := [.lit (.bool true)], args := [d1, d2, d3] }
  | _ => none }
def mergeAddsRow : OpenClaim := { program := "ytfddnmibjaibhaa", sum := "dae9a4d95ef1c252b5e63e914f0188b7c16e1e9a8bb2d92fc132aaae922e8814", func := "observatory/observatorylaw38.MergeAdds", spec := "mergeAdds", unfollowed := true, recurses := true, apart := false }
def MergeAddsSaid : Prop := mergeAddsRow.holds Try.pinned (OpenSpec.ofChange mergeAddsSpec)

/-- ITS FALSE NEIGHBOUR: 'it returns false'. Refute it at one input. -/
def mergeAddsWrong : ChangeSpec := { name := "mergeAdds", fn := fun _ => fun
  | [d1, d2, d3] => { results := [.lit (.bool false)], args := [d1, d2, d3] }
  | _ => none }
def MergeAddsWrongFalsely : Prop := mergeAddsRow.holds Try.pinned (OpenSpec.ofChange mergeAddsWrong)

/-- 'observatorylaw38.MergeMatchesReference': WHATEVER THE INPUT: true; the input reads as it did. -/
def mergeMatchesReferenceSpec : ChangeSpec := { name := "mergeMatchesReference", fn := fun _ => fun
  | [d1, d2] => { results := [.lit (.bool true)], args := [d1, d2] }
  | _ => none }
def mergeMatchesReferenceRow : OpenClaim := { program := "ytfddnmibjaibhaa", sum := "dae9a4d95ef1c252b5e63e914f0188b7c16e1e9a8bb2d92fc132aaae922e8814", func := "observatory/observatorylaw38.MergeMatchesReference", spec := "mergeMatchesReference", unfollowed := true, recurses := true, apart := false }
def MergeMatchesReferenceSaid : Prop := mergeMatchesReferenceRow.holds Try.pinned (OpenSpec.ofChange mergeMatchesReferenceSpec)

/-- ITS FALSE NEIGHBOUR: 'it returns false'. Refute it at one input. -/
def mergeMatchesReferenceWrong : ChangeSpec := { name := "mergeMatchesReference", fn := fun _ => fun
  | [d1, d2] => { results := [.lit (.bool false)], args := [d1, d2] }
  | _ => none }
def MergeMatchesReferenceWrongFalsely : Prop := mergeMatchesReferenceRow.holds Try.pinned (OpenSpec.ofChange mergeMatchesReferenceWrong)

/-- 'observatorylaw38.MergeSetAsReference': WHATEVER THE INPUT: true; the input reads as it did. -/
def mergeSetAsReferenceSpec : ChangeSpec := { name := "mergeSetAsReference", fn := fun _ => fun
  | [d1, d2] => { results := [.lit (.bool true)], args := [d1, d2] }
  | _ => none }
def mergeSetAsReferenceRow : OpenClaim := { program := "ytfddnmibjaibhaa", sum := "dae9a4d95ef1c252b5e63e914f0188b7c16e1e9a8bb2d92fc132aaae922e8814", func := "observatory/observatorylaw38.MergeSetAsReference", spec := "mergeSetAsReference", unfollowed := true, recurses := true, apart := false }
def MergeSetAsReferenceSaid : Prop := mergeSetAsReferenceRow.holds Try.pinned (OpenSpec.ofChange mergeSetAsReferenceSpec)

/-- ITS FALSE NEIGHBOUR: 'it returns false'. Refute it at one input. -/
def mergeSetAsReferenceWrong : ChangeSpec := { name := "mergeSetAsReference", fn := fun _ => fun
  | [d1, d2] => { results := [.lit (.bool false)], args := [d1, d2] }
  | _ => none }
def MergeSetAsReferenceWrongFalsely : Prop := mergeSetAsReferenceRow.holds Try.pinned (OpenSpec.ofChange mergeSetAsReferenceWrong)

/-- 'observatorylaw38.MergePartition': WHATEVER THE INPUT: true; the input reads as it did. -/
def mergePartitionSpec : ChangeSpec := { name := "mergePartition", fn := fun _ => fun
  | [d1, d2] => { results := [.lit (.bool true)], args := [d1, d2] }
  | _ => none }
def mergePartitionRow : OpenClaim := { program := "ytfddnmibjaibhaa", sum := "dae9a4d95ef1c252b5e63e914f0188b7c16e1e9a8bb2d92fc132aaae922e8814", func := "observatory/observatorylaw38.MergePartition", spec := "mergePartition", unfollowed := true, recurses := true, apart := false }
def MergePartitionSaid : Prop := mergePartitionRow.holds Try.pinned (OpenSpec.ofChange mergePartitionSpec)

/-- ITS FALSE NEIGHBOUR: 'it returns false'. Refute it at one input. -/
def mergePartitionWrong : ChangeSpec := { name := "mergePartition", fn := fun _ => fun
  | [d1, d2] => { results := [.lit (.bool false)], args := [d1, d2] }
  | _ => none }
def MergePartitionWrongFalsely : Prop := mergePartitionRow.holds Try.pinned (OpenSpec.ofChange mergePartitionWrong)

/-- 'observatorylaw38.MergeOrder': WHATEVER THE INPUT: true; the input reads as it did. -/
def mergeOrderSpec : ChangeSpec := { name := "mergeOrder", fn := fun _ => fun
  | [d1, d2] => { results := [.lit (.bool true)], args := [d1, d2] }
  | _ => none }
def mergeOrderRow : OpenClaim := { program := "ytfddnmibjaibhaa", sum := "dae9a4d95ef1c252b5e63e914f0188b7c16e1e9a8bb2d92fc132aaae922e8814", func := "observatory/observatorylaw38.MergeOrder", spec := "mergeOrder", unfollowed := true, recurses := true, apart := false }
def MergeOrderSaid : Prop := mergeOrderRow.holds Try.pinned (OpenSpec.ofChange mergeOrderSpec)

/-- ITS FALSE NEIGHBOUR: 'it returns false'. Refute it at one input. -/
def mergeOrderWrong : ChangeSpec := { name := "mergeOrder", fn := fun _ => fun
  | [d1, d2] => { results := [.lit (.bool false)], args := [d1, d2] }
  | _ => none }
def MergeOrderWrongFalsely : Prop := mergeOrderRow.holds Try.pinned (OpenSpec.ofChange mergeOrderWrong)

/- THE SECOND FORM. 'bulk': how many values and letters a reading holds, each counted each time it is reached (what is shared counts as often as it is met; a slice's spare places count too). A statement '..UptoSaid' is the law's where the arguments, and the package variables that the reading takes, are together of bulk at most 1048576: NARROWER than '..Said'. Prove '..Said' where nothing that the law and all that it calls make is longer than what came in: it says more and counts as full. Else prove '..UptoSaid'. A law counts once. -/
mutual
def uptoBulk {H : Type} : DataW H → Nat
  | .lit (.string bytes) => bytes.length + 1
  | .lit _ => 1
  | .nil => 1
  | .ptr d => uptoBulk d + 1
  | .slice elems spare => uptoBulkAll elems + uptoBulkAll spare + 1
  | .agg parts => uptoBulkAll parts + 1
  | .iface _ d => uptoBulk d + 1
  | .map entries => uptoBulkEntries entries + 1
  | .held _ => 1
def uptoBulkAll {H : Type} : List (DataW H) → Nat
  | [] => 0
  | d :: r => uptoBulk d + uptoBulkAll r
def uptoBulkEntries {H : Type} : List (Lit × DataW H) → Nat
  | [] => 0
  | x :: r => uptoBulkEntry x + uptoBulkEntries r
def uptoBulkEntry {H : Type} : Lit × DataW H → Nat
  | (.string bytes, d) => bytes.length + uptoBulk d + 1
  | (_, d) => uptoBulk d + 1
 end
def uptoSmall : (H : Type) → List (DataW H) → Bool := fun _ ds => decide (uptoBulkAll ds ≤ 1048576)
def OpenSpec.upto (s : _root_.Go.ChangeSpec) : _root_.Go.OpenSpec := { _root_.Go.OpenSpec.ofChange s with cond := some uptoSmall }

/-- 'observatorylaw10.SkyMatchesReference', WHERE WHAT IT READS IS OF BULK AT MOST 1048576: true; the input reads as it did. -/
def skyMatchesReferenceUptoRow : OpenClaim := { program := "ytfddnmibjaibhaa", sum := "dae9a4d95ef1c252b5e63e914f0188b7c16e1e9a8bb2d92fc132aaae922e8814", func := "observatory/observatorylaw10.SkyMatchesReference", spec := "skyMatchesReference", unfollowed := true, recurses := true, apart := false, narrowed := true }
def SkyMatchesReferenceUptoSaid : Prop := skyMatchesReferenceUptoRow.holds Try.pinned (OpenSpec.upto skyMatchesReferenceSpec)

/-- 'observatorylaw10.SkyTiles', WHERE WHAT IT READS IS OF BULK AT MOST 1048576: true; the input reads as it did. -/
def skyTilesUptoRow : OpenClaim := { program := "ytfddnmibjaibhaa", sum := "dae9a4d95ef1c252b5e63e914f0188b7c16e1e9a8bb2d92fc132aaae922e8814", func := "observatory/observatorylaw10.SkyTiles", spec := "skyTiles", unfollowed := true, recurses := true, apart := false, narrowed := true }
def SkyTilesUptoSaid : Prop := skyTilesUptoRow.holds Try.pinned (OpenSpec.upto skyTilesSpec)

/-- 'observatorylaw10.SkyDistances', WHERE WHAT IT READS IS OF BULK AT MOST 1048576: true; the input reads as it did. -/
def skyDistancesUptoRow : OpenClaim := { program := "ytfddnmibjaibhaa", sum := "dae9a4d95ef1c252b5e63e914f0188b7c16e1e9a8bb2d92fc132aaae922e8814", func := "observatory/observatorylaw10.SkyDistances", spec := "skyDistances", unfollowed := true, recurses := true, apart := false, narrowed := true }
def SkyDistancesUptoSaid : Prop := skyDistancesUptoRow.holds Try.pinned (OpenSpec.upto skyDistancesSpec)

/-- 'observatorylaw10.SkyNear', WHERE WHAT IT READS IS OF BULK AT MOST 1048576: true; the input reads as it did. -/
def skyNearUptoRow : OpenClaim := { program := "ytfddnmibjaibhaa", sum := "dae9a4d95ef1c252b5e63e914f0188b7c16e1e9a8bb2d92fc132aaae922e8814", func := "observatory/observatorylaw10.SkyNear", spec := "skyNear", unfollowed := true, recurses := true, apart := false, narrowed := true }
def SkyNearUptoSaid : Prop := skyNearUptoRow.holds Try.pinned (OpenSpec.upto skyNearSpec)

/-- 'observatorylaw38.MergeWindows', WHERE WHAT IT READS IS OF BULK AT MOST 1048576: true; the input reads as it did. -/
def mergeWindowsUptoRow : OpenClaim := { program := "ytfddnmibjaibhaa", sum := "dae9a4d95ef1c252b5e63e914f0188b7c16e1e9a8bb2d92fc132aaae922e8814", func := "observatory/observatorylaw38.MergeWindows", spec := "mergeWindows", unfollowed := true, recurses := true, apart := false, narrowed := true }
def MergeWindowsUptoSaid : Prop := mergeWindowsUptoRow.holds Try.pinned (OpenSpec.upto mergeWindowsSpec)

/-- 'observatorylaw10.SkySteps', WHERE WHAT IT READS IS OF BULK AT MOST 1048576: true; the input reads as it did. -/
def skyStepsUptoRow : OpenClaim := { program := "ytfddnmibjaibhaa", sum := "dae9a4d95ef1c252b5e63e914f0188b7c16e1e9a8bb2d92fc132aaae922e8814", func := "observatory/observatorylaw10.SkySteps", spec := "skySteps", unfollowed := true, recurses := true, apart := false, narrowed := true }
def SkyStepsUptoSaid : Prop := skyStepsUptoRow.holds Try.pinned (OpenSpec.upto skyStepsSpec)

/-- 'observatorylaw38.MergeAdds', WHERE WHAT IT READS IS OF BULK AT MOST 1048576: true; the input reads as it did. -/
def mergeAddsUptoRow : OpenClaim := { program := "ytfddnmibjaibhaa", sum := "dae9a4d95ef1c252b5e63e914f0188b7c16e1e9a8bb2d92fc132aaae922e8814", func := "observatory/observatorylaw38.MergeAdds", spec := "mergeAdds", unfollowed := true, recurses := true, apart := false, narrowed := true }
def MergeAddsUptoSaid : Prop := mergeAddsUptoRow.holds Try.pinned (OpenSpec.upto mergeAddsSpec)

/-- 'observatorylaw38.MergeMatchesReference', WHERE WHAT IT READS IS OF BULK AT MOST 1048576: true; the input reads as it did. -/
def mergeMatchesReferenceUptoRow : OpenClaim := { program := "ytfddnmibjaibhaa", sum := "dae9a4d95ef1c252b5e63e914f0188b7c16e1e9a8bb2d92fc132aaae922e8814", func := "observatory/observatorylaw38.MergeMatchesReference", spec := "mergeMatchesReference", unfollowed := true, recurses := true, apart := false, narrowed := true }
def MergeMatchesReferenceUptoSaid : Prop := mergeMatchesReferenceUptoRow.holds Try.pinned (OpenSpec.upto mergeMatchesReferenceSpec)

/-- 'observatorylaw38.MergeSetAsReference', WHERE WHAT IT READS IS OF BULK AT MOST 1048576: true; the input reads as it did. -/
def mergeSetAsReferenceUptoRow : OpenClaim := { program := "ytfddnmibjaibhaa", sum := "dae9a4d95ef1c252b5e63e914f0188b7c16e1e9a8bb2d92fc132aaae922e8814", func := "observatory/observatorylaw38.MergeSetAsReference", spec := "mergeSetAsReference", unfollowed := true, recurses := true, apart := false, narrowed := true }
def MergeSetAsReferenceUptoSaid : Prop := mergeSetAsReferenceUptoRow.holds Try.pinned (OpenSpec.upto mergeSetAsReferenceSpec)

/-- 'observatorylaw38.MergePartition', WHERE WHAT IT READS IS OF BULK AT MOST 1048576: true; the input reads as it did. -/
def mergePartitionUptoRow : OpenClaim := { program := "ytfddnmibjaibhaa", sum := "dae9a4d95ef1c252b5e63e914f0188b7c16e1e9a8bb2d92fc132aaae922e8814", func := "observatory/observatorylaw38.MergePartition", spec := "mergePartition", unfollowed := true, recurses := true, apart := false, narrowed := true }
def MergePartitionUptoSaid : Prop := mergePartitionUptoRow.holds Try.pinned (OpenSpec.upto mergePartitionSpec)

/-- 'observatorylaw38.MergeOrder', WHERE WHAT IT READS IS OF BULK AT MOST 1048576: true; the input reads as it did. -/
def mergeOrderUptoRow : OpenClaim := { program := "ytfddnmibjaibhaa", sum := "dae9a4d95ef1c252b5e63e914f0188b7c16e1e9a8bb2d92fc132aaae922e8814", func := "observatory/observatorylaw38.MergeOrder", spec := "mergeOrder", unfollowed := true, recurses := true, apart := false, narrowed := true }
def MergeOrderUptoSaid : Prop := mergeOrderUptoRow.holds Try.pinned (OpenSpec.upto mergeOrderSpec)

end Rows
end Go.Proofs.Ytfddnmibjaibhaa
