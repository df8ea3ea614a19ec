/-
  No cell of these rows narrows 'for every input' (looked for: loops, veiled, ifaces, maps, wideKeys, modest, calm, conditions, laid).
  DERIVED. THE GIVEN ROWS OF THIS SEAT. 6 by the template 'for every input the law returns true; each argument reads behind the call as it read before'; 0 by the template 'total and deterministic' (their statements: YtjofhegodknmaaaTotals.lean).
  GIVEN WITH THE SEED: the statements are not yours to turn. If you find one false, say at which input.
  Laid BY PROGRAM, IN A SANDBOX (cutbox-rows.mjs): the forced cells as the released guide's own fill.sh prints them over the translation 80893b84a9f207fe… (all of the seat's roots in one cut). By AI agents, Wed Nov 11 2026. No macro, syntax, notation, axiom, sorry.
-/
import Derived.Test.YtjofhegodknmaaaChecked
import GoSem.Claim
import GoSem.ClaimJoined
import GoSem.ClaimMapViews
import Derived.JoinedTies
import Derived.KernelRfl
namespace Go.Proofs.Ytjofhegodknmaaa
/- THE CELL 'sum', in the pinned program and in every row, IS THE sha256 OF THE DUMP (.gsa) THAT YtjofhegodknmaaaProg.lean LOADS. Nothing in Lean hashes anything: it is a label: what it is worth is what the hold of that sum in a sandbox is worth. -/
noncomputable def Try.pinned : Pinned := { name := "ytjofhegodknmaaa", sum := "80893b84a9f207fe297f8de99b33be84eb408bc2ef49f2c482672b058c85262f", checked := Try.checked }
namespace Rows
def none {H : Type} : Left H := { results := [], args := [] }

/-- 'assayerlaw23.ProjDrops': WHATEVER THE INPUT: true; the input reads as it did. -/
def projDropsSpec : ChangeSpec := { name := "projDrops", fn := fun _ => fun
  | [d1, d2, d3] => { results := [.lit (.bool true)], args := [d1, d2, d3] }
  | _ => none }
def projDropsRow : OpenClaim := { program := "ytjofhegodknmaaa", sum := "80893b84a9f207fe297f8de99b33be84eb408bc2ef49f2c482672b058c85262f", func := "assayer/assayerlaw23.ProjDrops", spec := "projDrops", inPlace := ["internal/bytealg.IndexByteString", "internal/bytealg.abigen_runtime_cmpstring"], unfollowed := true, recurses := true, apart := false }
def ProjDropsSaid : Prop := projDropsRow.holds Try.pinned (OpenSpec.ofChange projDropsSpec)

/-- ITS FALSE NEIGHBOUR: 'it returns false'. Refute it at one input. -/
def projDropsWrong : ChangeSpec := { name := "projDrops", fn := fun _ => fun
  | [d1, d2, d3] => { results := [.lit (.bool false)], args := [d1, d2, d3] }
  | _ => none }
def ProjDropsWrongFalsely : Prop := projDropsRow.holds Try.pinned (OpenSpec.ofChange projDropsWrong)

/-- 'assayerlaw13.OrderStays': WHATEVER THE INPUT: true; the input reads as it did. -/
def orderStaysSpec : ChangeSpec := { name := "orderStays", fn := fun _ => fun
  | [d1, d2] => { results := [.lit (.bool true)], args := [d1, d2] }
  | _ => none }
def orderStaysRow : OpenClaim := { program := "ytjofhegodknmaaa", sum := "80893b84a9f207fe297f8de99b33be84eb408bc2ef49f2c482672b058c85262f", func := "assayer/assayerlaw13.OrderStays", spec := "orderStays", inPlace := ["internal/bytealg.abigen_runtime_cmpstring"], unfollowed := true, recurses := true, apart := false }
def OrderStaysSaid : Prop := orderStaysRow.holds Try.pinned (OpenSpec.ofChange orderStaysSpec)

/-- ITS FALSE NEIGHBOUR: 'it returns false'. Refute it at one input. -/
def orderStaysWrong : ChangeSpec := { name := "orderStays", fn := fun _ => fun
  | [d1, d2] => { results := [.lit (.bool false)], args := [d1, d2] }
  | _ => none }
def OrderStaysWrongFalsely : Prop := orderStaysRow.holds Try.pinned (OpenSpec.ofChange orderStaysWrong)

/-- 'assayerlaw13.OrderMaps': WHATEVER THE INPUT: true; the input reads as it did. -/
def orderMapsSpec : ChangeSpec := { name := "orderMaps", fn := fun _ => fun
  | [d1, d2] => { results := [.lit (.bool true)], args := [d1, d2] }
  | _ => none }
def orderMapsRow : OpenClaim := { program := "ytjofhegodknmaaa", sum := "80893b84a9f207fe297f8de99b33be84eb408bc2ef49f2c482672b058c85262f", func := "assayer/assayerlaw13.OrderMaps", spec := "orderMaps", inPlace := ["internal/bytealg.abigen_runtime_cmpstring"], unfollowed := true, recurses := true, apart := false }
def OrderMapsSaid : Prop := orderMapsRow.holds Try.pinned (OpenSpec.ofChange orderMapsSpec)

/-- ITS FALSE NEIGHBOUR: 'it returns false'. Refute it at one input. -/
def orderMapsWrong : ChangeSpec := { name := "orderMaps", fn := fun _ => fun
  | [d1, d2] => { results := [.lit (.bool false)], args := [d1, d2] }
  | _ => none }
def OrderMapsWrongFalsely : Prop := orderMapsRow.holds Try.pinned (OpenSpec.ofChange orderMapsWrong)

/-- 'assayerlaw16.InhabitDoubles': WHATEVER THE INPUT: true; the input reads as it did. -/
def inhabitDoublesSpec : ChangeSpec := { name := "inhabitDoubles", fn := fun _ => fun
  | [d] => { results := [.lit (.bool true)], args := [d] }
  | _ => none }
def inhabitDoublesRow : OpenClaim := { program := "ytjofhegodknmaaa", sum := "80893b84a9f207fe297f8de99b33be84eb408bc2ef49f2c482672b058c85262f", func := "assayer/assayerlaw16.InhabitDoubles", spec := "inhabitDoubles", inPlace := ["maps.clone", "internal/bytealg.IndexByteString"], unfollowed := true, recurses := true, apart := false }
def InhabitDoublesSaid : Prop := inhabitDoublesRow.holds Try.pinned (OpenSpec.ofChange inhabitDoublesSpec)

/-- ITS FALSE NEIGHBOUR: 'it returns false'. Refute it at one input. -/
def inhabitDoublesWrong : ChangeSpec := { name := "inhabitDoubles", fn := fun _ => fun
  | [d] => { results := [.lit (.bool false)], args := [d] }
  | _ => none }
def InhabitDoublesWrongFalsely : Prop := inhabitDoublesRow.holds Try.pinned (OpenSpec.ofChange inhabitDoublesWrong)

/-- 'assayerlaw16.InhabitRight': WHATEVER THE INPUT: true; the input reads as it did. -/
def inhabitRightSpec : ChangeSpec := { name := "inhabitRight", fn := fun _ => fun
  | [d] => { results := [.lit (.bool true)], args := [d] }
  | _ => none }
def inhabitRightRow : OpenClaim := { program := "ytjofhegodknmaaa", sum := "80893b84a9f207fe297f8de99b33be84eb408bc2ef49f2c482672b058c85262f", func := "assayer/assayerlaw16.InhabitRight", spec := "inhabitRight", inPlace := ["maps.clone", "internal/bytealg.IndexByteString"], unfollowed := true, recurses := true, apart := false }
def InhabitRightSaid : Prop := inhabitRightRow.holds Try.pinned (OpenSpec.ofChange inhabitRightSpec)

/-- ITS FALSE NEIGHBOUR: 'it returns false'. Refute it at one input. -/
def inhabitRightWrong : ChangeSpec := { name := "inhabitRight", fn := fun _ => fun
  | [d] => { results := [.lit (.bool false)], args := [d] }
  | _ => none }
def InhabitRightWrongFalsely : Prop := inhabitRightRow.holds Try.pinned (OpenSpec.ofChange inhabitRightWrong)

/-- 'assayerlaw16.InhabitAll': WHATEVER THE INPUT: true; the input reads as it did. -/
def inhabitAllSpec : ChangeSpec := { name := "inhabitAll", fn := fun _ => fun
  | [d1, d2] => { results := [.lit (.bool true)], args := [d1, d2] }
  | _ => none }
def inhabitAllRow : OpenClaim := { program := "ytjofhegodknmaaa", sum := "80893b84a9f207fe297f8de99b33be84eb408bc2ef49f2c482672b058c85262f", func := "assayer/assayerlaw16.InhabitAll", spec := "inhabitAll", inPlace := ["maps.clone", "internal/bytealg.IndexByteString"], unfollowed := true, recurses := true, apart := false }
def InhabitAllSaid : Prop := inhabitAllRow.holds Try.pinned (OpenSpec.ofChange inhabitAllSpec)

/-- ITS FALSE NEIGHBOUR: 'it returns false'. Refute it at one input. -/
def inhabitAllWrong : ChangeSpec := { name := "inhabitAll", fn := fun _ => fun
  | [d1, d2] => { results := [.lit (.bool false)], args := [d1, d2] }
  | _ => none }
def InhabitAllWrongFalsely : Prop := inhabitAllRow.holds Try.pinned (OpenSpec.ofChange inhabitAllWrong)

/- THE SECOND FORM. 'bulk': how many values and letters a reading holds, each counted each time it is reached (what is shared counts as often as it is met; a slice's spare places count too). A statement '..UptoSaid' is the law's where the arguments, and the package variables that the reading takes, are together of bulk at most 1048576: NARROWER than '..Said'. Prove '..Said' where nothing that the law and all that it calls make is longer than what came in: it says more and counts as full. Else prove '..UptoSaid'. A law counts once. -/
mutual
def uptoBulk {H : Type} : DataW H → Nat
  | .lit (.string bytes) => bytes.length + 1
  | .lit _ => 1
  | .nil => 1
  | .ptr d => uptoBulk d + 1
  | .slice elems spare => uptoBulkAll elems + uptoBulkAll spare + 1
  | .agg parts => uptoBulkAll parts + 1
  | .iface _ d => uptoBulk d + 1
  | .map entries => uptoBulkEntries entries + 1
  | .held _ => 1
def uptoBulkAll {H : Type} : List (DataW H) → Nat
  | [] => 0
  | d :: r => uptoBulk d + uptoBulkAll r
def uptoBulkEntries {H : Type} : List (Lit × DataW H) → Nat
  | [] => 0
  | x :: r => uptoBulkEntry x + uptoBulkEntries r
def uptoBulkEntry {H : Type} : Lit × DataW H → Nat
  | (.string bytes, d) => bytes.length + uptoBulk d + 1
  | (_, d) => uptoBulk d + 1
 end
def uptoSmall : (H : Type) → List (DataW H) → Bool := fun _ ds => decide (uptoBulkAll ds ≤ 1048576)
def OpenSpec.upto (s : _root_.Go.ChangeSpec) : _root_.Go.OpenSpec := { _root_.Go.OpenSpec.ofChange s with cond := some uptoSmall }

/-- 'assayerlaw23.ProjDrops', WHERE WHAT IT READS IS OF BULK AT MOST 1048576: true; the input reads as it did. -/
def projDropsUptoRow : OpenClaim := { program := "ytjofhegodknmaaa", sum := "80893b84a9f207fe297f8de99b33be84eb408bc2ef49f2c482672b058c85262f", func := "assayer/assayerlaw23.ProjDrops", spec := "projDrops", inPlace := ["internal/bytealg.IndexByteString", "internal/bytealg.abigen_runtime_cmpstring"], unfollowed := true, recurses := true, apart := false, narrowed := true }
def ProjDropsUptoSaid : Prop := projDropsUptoRow.holds Try.pinned (OpenSpec.upto projDropsSpec)

/-- 'assayerlaw13.OrderStays', WHERE WHAT IT READS IS OF BULK AT MOST 1048576: true; the input reads as it did. -/
def orderStaysUptoRow : OpenClaim := { program := "ytjofhegodknmaaa", sum := "80893b84a9f207fe297f8de99b33be84eb408bc2ef49f2c482672b058c85262f", func := "assayer/assayerlaw13.OrderStays", spec := "orderStays", inPlace := ["internal/bytealg.abigen_runtime_cmpstring"], unfollowed := true, recurses := true, apart := false, narrowed := true }
def OrderStaysUptoSaid : Prop := orderStaysUptoRow.holds Try.pinned (OpenSpec.upto orderStaysSpec)

/-- 'assayerlaw13.OrderMaps', WHERE WHAT IT READS IS OF BULK AT MOST 1048576: true; the input reads as it did. -/
def orderMapsUptoRow : OpenClaim := { program := "ytjofhegodknmaaa", sum := "80893b84a9f207fe297f8de99b33be84eb408bc2ef49f2c482672b058c85262f", func := "assayer/assayerlaw13.OrderMaps", spec := "orderMaps", inPlace := ["internal/bytealg.abigen_runtime_cmpstring"], unfollowed := true, recurses := true, apart := false, narrowed := true }
def OrderMapsUptoSaid : Prop := orderMapsUptoRow.holds Try.pinned (OpenSpec.upto orderMapsSpec)

/-- 'assayerlaw16.InhabitDoubles', WHERE WHAT IT READS IS OF BULK AT MOST 1048576: true; the input reads as it did. -/
def inhabitDoublesUptoRow : OpenClaim := { program := "ytjofhegodknmaaa", sum := "80893b84a9f207fe297f8de99b33be84eb408bc2ef49f2c482672b058c85262f", func := "assayer/assayerlaw16.InhabitDoubles", spec := "inhabitDoubles", inPlace := ["maps.clone", "internal/bytealg.IndexByteString"], unfollowed := true, recurses := true, apart := false, narrowed := true }
def InhabitDoublesUptoSaid : Prop := inhabitDoublesUptoRow.holds Try.pinned (OpenSpec.upto inhabitDoublesSpec)

/-- 'assayerlaw16.InhabitRight', WHERE WHAT IT READS IS OF BULK AT MOST 1048576: true; the input reads as it did. -/
def inhabitRightUptoRow : OpenClaim := { program := "ytjofhegodknmaaa", sum := "80893b84a9f207fe297f8de99b33be84eb408bc2ef49f2c482672b058c85262f", func := "assayer/assayerlaw16.InhabitRight", spec := "inhabitRight", inPlace := ["maps.clone", "internal/bytealg.IndexByteString"], unfollowed := true, recurses := true, apart := false, narrowed := true }
def InhabitRightUptoSaid : Prop := inhabitRightUptoRow.holds Try.pinned (OpenSpec.upto inhabitRightSpec)

/-- 'assayerlaw16.InhabitAll', WHERE WHAT IT READS IS OF BULK AT MOST 1048576: true; the input reads as it did. -/
def inhabitAllUptoRow : OpenClaim := { program := "ytjofhegodknmaaa", sum := "80893b84a9f207fe297f8de99b33be84eb408bc2ef49f2c482672b058c85262f", func := "assayer/assayerlaw16.InhabitAll", spec := "inhabitAll", inPlace := ["maps.clone", "internal/bytealg.IndexByteString"], unfollowed := true, recurses := true, apart := false, narrowed := true }
def InhabitAllUptoSaid : Prop := inhabitAllUptoRow.holds Try.pinned (OpenSpec.upto inhabitAllSpec)

end Rows
end Go.Proofs.Ytjofhegodknmaaa
