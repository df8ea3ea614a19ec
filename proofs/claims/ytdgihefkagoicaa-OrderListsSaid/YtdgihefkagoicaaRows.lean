/-
  No cell of these rows narrows 'for every input' (looked for: loops, veiled, ifaces, maps, wideKeys, modest, calm, conditions, laid).
  DERIVED. THE GIVEN ROWS OF THIS SEAT. 4 by the template 'for every input the law returns true; each argument reads behind the call as it read before'; 0 by the template 'total and deterministic' (their statements: YtdgihefkagoicaaTotals.lean).
  GIVEN WITH THE SEED: the statements are not yours to turn. If you find one false, say at which input.
  Laid BY PROGRAM, IN A SANDBOX (cutbox-rows.mjs): the forced cells as the released guide's own fill.sh prints them over the translation 439699c8e26bab0a… (all of the seat's roots in one cut). By AI agents, Wed Nov 11 2026. No macro, syntax, notation, axiom, sorry.
-/
import Derived.Test.YtdgihefkagoicaaChecked
import GoSem.Claim
import GoSem.ClaimJoined
import GoSem.ClaimMapViews
import Derived.JoinedTies
import Derived.KernelRfl
namespace Go.Proofs.Ytdgihefkagoicaa
/- THE CELL 'sum', in the pinned program and in every row, IS THE sha256 OF THE DUMP (.gsa) THAT YtdgihefkagoicaaProg.lean LOADS. Nothing in Lean hashes anything: it is a label: what it is worth is what the hold of that sum in a sandbox is worth. -/
noncomputable def Try.pinned : Pinned := { name := "ytdgihefkagoicaa", sum := "439699c8e26bab0ae782282d4207c0044e3d3b68cde7f168aec435a5906a5f78", checked := Try.checked }
namespace Rows
def none {H : Type} : Left H := { results := [], args := [] }

/-- 'assayerlaw14.ValueRanges': WHATEVER THE INPUT: true; the input reads as it did. -/
def valueRangesSpec : ChangeSpec := { name := "valueRanges", fn := fun _ => fun
  | [d] => { results := [.lit (.bool true)], args := [d] }
  | _ => none }
def valueRangesRow : OpenClaim := { program := "ytdgihefkagoicaa", sum := "439699c8e26bab0ae782282d4207c0044e3d3b68cde7f168aec435a5906a5f78", func := "assayer/assayerlaw14.ValueRanges", spec := "valueRanges", inPlace := ["internal/bytealg.IndexByteString", "internal/bytealg.abigen_runtime_cmpstring"], unfollowed := true, recurses := true, apart := false }
def ValueRangesSaid : Prop := valueRangesRow.holds Try.pinned (OpenSpec.ofChange valueRangesSpec)

/-- ITS FALSE NEIGHBOUR: 'it returns false'. Refute it at one input. -/
def valueRangesWrong : ChangeSpec := { name := "valueRanges", fn := fun _ => fun
  | [d] => { results := [.lit (.bool false)], args := [d] }
  | _ => none }
def ValueRangesWrongFalsely : Prop := valueRangesRow.holds Try.pinned (OpenSpec.ofChange valueRangesWrong)

/-- 'assayerlaw18.MeasureLists': WHATEVER THE INPUT: true; the input reads as it did. -/
def measureListsSpec : ChangeSpec := { name := "measureLists", fn := fun _ => fun
  | [d1, d2] => { results := [.lit (.bool true)], args := [d1, d2] }
  | _ => none }
def measureListsRow : OpenClaim := { program := "ytdgihefkagoicaa", sum := "439699c8e26bab0ae782282d4207c0044e3d3b68cde7f168aec435a5906a5f78", func := "assayer/assayerlaw18.MeasureLists", spec := "measureLists", recurses := true, apart := false }
def MeasureListsSaid : Prop := measureListsRow.holds Try.pinned (OpenSpec.ofChange measureListsSpec)

/-- ITS FALSE NEIGHBOUR: 'it returns false'. Refute it at one input. -/
def measureListsWrong : ChangeSpec := { name := "measureLists", fn := fun _ => fun
  | [d1, d2] => { results := [.lit (.bool false)], args := [d1, d2] }
  | _ => none }
def MeasureListsWrongFalsely : Prop := measureListsRow.holds Try.pinned (OpenSpec.ofChange measureListsWrong)

/-- 'assayerlaw13.OrderLists': WHATEVER THE INPUT: true; the input reads as it did. -/
def orderListsSpec : ChangeSpec := { name := "orderLists", fn := fun _ => fun
  | [d1, d2, d3, d4] => { results := [.lit (.bool true)], args := [d1, d2, d3, d4] }
  | _ => none }
def orderListsRow : OpenClaim := { program := "ytdgihefkagoicaa", sum := "439699c8e26bab0ae782282d4207c0044e3d3b68cde7f168aec435a5906a5f78", func := "assayer/assayerlaw13.OrderLists", spec := "orderLists", inPlace := ["internal/bytealg.abigen_runtime_cmpstring"], unfollowed := true, recurses := true, apart := false }
def OrderListsSaid : Prop := orderListsRow.holds Try.pinned (OpenSpec.ofChange orderListsSpec)

/-- ITS FALSE NEIGHBOUR: 'it returns false'. Refute it at one input. -/
def orderListsWrong : ChangeSpec := { name := "orderLists", fn := fun _ => fun
  | [d1, d2, d3, d4] => { results := [.lit (.bool false)], args := [d1, d2, d3, d4] }
  | _ => none }
def OrderListsWrongFalsely : Prop := orderListsRow.holds Try.pinned (OpenSpec.ofChange orderListsWrong)

/-- 'assayerlaw23.ProjDrops': WHATEVER THE INPUT: true; the input reads as it did. -/
def projDropsSpec : ChangeSpec := { name := "projDrops", fn := fun _ => fun
  | [d1, d2, d3] => { results := [.lit (.bool true)], args := [d1, d2, d3] }
  | _ => none }
def projDropsRow : OpenClaim := { program := "ytdgihefkagoicaa", sum := "439699c8e26bab0ae782282d4207c0044e3d3b68cde7f168aec435a5906a5f78", func := "assayer/assayerlaw23.ProjDrops", spec := "projDrops", inPlace := ["internal/bytealg.IndexByteString", "internal/bytealg.abigen_runtime_cmpstring"], unfollowed := true, recurses := true, apart := false }
def ProjDropsSaid : Prop := projDropsRow.holds Try.pinned (OpenSpec.ofChange projDropsSpec)

/-- ITS FALSE NEIGHBOUR: 'it returns false'. Refute it at one input. -/
def projDropsWrong : ChangeSpec := { name := "projDrops", fn := fun _ => fun
  | [d1, d2, d3] => { results := [.lit (.bool false)], args := [d1, d2, d3] }
  | _ => none }
def ProjDropsWrongFalsely : Prop := projDropsRow.holds Try.pinned (OpenSpec.ofChange projDropsWrong)

/- THE SECOND FORM. 'bulk': how many values and letters a reading holds, each counted each time it is reached (what is shared counts as often as it is met; a slice's spare places count too). A statement '..UptoSaid' is the law's where the arguments, and the package variables that the reading takes, are together of bulk at most 1048576: NARROWER than '..Said'. Prove '..Said' where nothing that the law and all that it calls make is longer than what came in: it says more and counts as full. Else prove '..UptoSaid'. A law counts once. -/
mutual
def uptoBulk {H : Type} : DataW H → Nat
  | .lit (.string bytes) => bytes.length + 1
  | .lit _ => 1
  | .nil => 1
  | .ptr d => uptoBulk d + 1
  | .slice elems spare => uptoBulkAll elems + uptoBulkAll spare + 1
  | .agg parts => uptoBulkAll parts + 1
  | .iface _ d => uptoBulk d + 1
  | .map entries => uptoBulkEntries entries + 1
  | .held _ => 1
def uptoBulkAll {H : Type} : List (DataW H) → Nat
  | [] => 0
  | d :: r => uptoBulk d + uptoBulkAll r
def uptoBulkEntries {H : Type} : List (Lit × DataW H) → Nat
  | [] => 0
  | x :: r => uptoBulkEntry x + uptoBulkEntries r
def uptoBulkEntry {H : Type} : Lit × DataW H → Nat
  | (.string bytes, d) => bytes.length + uptoBulk d + 1
  | (_, d) => uptoBulk d + 1
 end
def uptoSmall : (H : Type) → List (DataW H) → Bool := fun _ ds => decide (uptoBulkAll ds ≤ 1048576)
def OpenSpec.upto (s : _root_.Go.ChangeSpec) : _root_.Go.OpenSpec := { _root_.Go.OpenSpec.ofChange s with cond := some uptoSmall }

/-- 'assayerlaw14.ValueRanges', WHERE WHAT IT READS IS OF BULK AT MOST 1048576: true; the input reads as it did. -/
def valueRangesUptoRow : OpenClaim := { program := "ytdgihefkagoicaa", sum := "439699c8e26bab0ae782282d4207c0044e3d3b68cde7f168aec435a5906a5f78", func := "assayer/assayerlaw14.ValueRanges", spec := "valueRanges", inPlace := ["internal/bytealg.IndexByteString", "internal/bytealg.abigen_runtime_cmpstring"], unfollowed := true, recurses := true, apart := false, narrowed := true }
def ValueRangesUptoSaid : Prop := valueRangesUptoRow.holds Try.pinned (OpenSpec.upto valueRangesSpec)

/-- 'assayerlaw18.MeasureLists', WHERE WHAT IT READS IS OF BULK AT MOST 1048576: true; the input reads as it did. -/
def measureListsUptoRow : OpenClaim := { program := "ytdgihefkagoicaa", sum := "439699c8e26bab0ae782282d4207c0044e3d3b68cde7f168aec435a5906a5f78", func := "assayer/assayerlaw18.MeasureLists", spec := "measureLists", recurses := true, apart := false, narrowed := true }
def MeasureListsUptoSaid : Prop := measureListsUptoRow.holds Try.pinned (OpenSpec.upto measureListsSpec)

/-- 'assayerlaw13.OrderLists', WHERE WHAT IT READS IS OF BULK AT MOST 1048576: true; the input reads as it did. -/
def orderListsUptoRow : OpenClaim := { program := "ytdgihefkagoicaa", sum := "439699c8e26bab0ae782282d4207c0044e3d3b68cde7f168aec435a5906a5f78", func := "assayer/assayerlaw13.OrderLists", spec := "orderLists", inPlace := ["internal/bytealg.abigen_runtime_cmpstring"], unfollowed := true, recurses := true, apart := false, narrowed := true }
def OrderListsUptoSaid : Prop := orderListsUptoRow.holds Try.pinned (OpenSpec.upto orderListsSpec)

/-- 'assayerlaw23.ProjDrops', WHERE WHAT IT READS IS OF BULK AT MOST 1048576: true; the input reads as it did. -/
def projDropsUptoRow : OpenClaim := { program := "ytdgihefkagoicaa", sum := "439699c8e26bab0ae782282d4207c0044e3d3b68cde7f168aec435a5906a5f78", func := "assayer/assayerlaw23.ProjDrops", spec := "projDrops", inPlace := ["internal/bytealg.IndexByteString", "internal/bytealg.abigen_runtime_cmpstring"], unfollowed := true, recurses := true, apart := false, narrowed := true }
def ProjDropsUptoSaid : Prop := projDropsUptoRow.holds Try.pinned (OpenSpec.upto projDropsSpec)

end Rows
end Go.Proofs.Ytdgihefkagoicaa
