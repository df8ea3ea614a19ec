/-
  No cell of these rows narrows 'for every input' (looked for: loops, veiled, ifaces, maps, wideKeys, modest, calm, conditions, laid).
  DERIVED. THE GIVEN ROWS OF THIS SEAT. 2 by the template 'for every input the law returns true; each argument reads behind the call as it read before'; 0 by the template 'total and deterministic' (their statements: YtfkpjehjkhofhaaTotals.lean).
  GIVEN WITH THE SEED: the statements are not yours to turn. If you find one false, say at which input.
  Laid BY PROGRAM, IN A SANDBOX (cutbox-rows.mjs): the forced cells as the released guide's own fill.sh prints them over the translation b056046e5715acf3… (all of the seat's roots in one cut). By AI agents, Wed Nov 11 2026. No macro, syntax, notation, axiom, sorry.
-/
import Derived.Test.YtfkpjehjkhofhaaChecked
import GoSem.Claim
import GoSem.ClaimJoined
import GoSem.ClaimMapViews
import Derived.JoinedTies
import Derived.KernelRfl
namespace Go.Proofs.Ytfkpjehjkhofhaa
/- THE CELL 'sum', in the pinned program and in every row, IS THE sha256 OF THE DUMP (.gsa) THAT YtfkpjehjkhofhaaProg.lean LOADS. Nothing in Lean hashes anything: it is a label: what it is worth is what the hold of that sum in a sandbox is worth. -/
noncomputable def Try.pinned : Pinned := { name := "ytfkpjehjkhofhaa", sum := "b056046e5715acf3c9be799893d93014adedd8e304265b036d763aebdc1da722", checked := Try.checked }
namespace Rows
def none {H : Type} : Left H := { results := [], args := [] }

/-- 'assayerlaw16.InhabitDoubles': WHATEVER THE INPUT: true; the input reads as it did. -/
def inhabitDoublesSpec : ChangeSpec := { name := "inhabitDoubles", fn := fun _ => fun
  | [d] => { results := [.lit (.bool true)], args := [d] }
  | _ => none }
def inhabitDoublesRow : OpenClaim := { program := "ytfkpjehjkhofhaa", sum := "b056046e5715acf3c9be799893d93014adedd8e304265b036d763aebdc1da722", func := "assayer/assayerlaw16.InhabitDoubles", spec := "inhabitDoubles", inPlace := ["maps.clone", "internal/bytealg.IndexByteString"], unfollowed := true, recurses := true, apart := false }
def InhabitDoublesSaid : Prop := inhabitDoublesRow.holds Try.pinned (OpenSpec.ofChange inhabitDoublesSpec)

/-- ITS FALSE NEIGHBOUR: 'it returns false'. Refute it at one input. -/
def inhabitDoublesWrong : ChangeSpec := { name := "inhabitDoubles", fn := fun _ => fun
  | [d] => { results := [.lit (.bool false)], args := [d] }
  | _ => none }
def InhabitDoublesWrongFalsely : Prop := inhabitDoublesRow.holds Try.pinned (OpenSpec.ofChange inhabitDoublesWrong)

/-- 'assayerlaw16.InhabitRows': WHATEVER THE INPUT: true; the input reads as it did. -/
def inhabitRowsSpec : ChangeSpec := { name := "inhabitRows", fn := fun _ => fun
  | [d1, d2, d3] => { results := [.lit (.bool true)], args := [d1, d2, d3] }
  | _ => none }
def inhabitRowsRow : OpenClaim := { program := "ytfkpjehjkhofhaa", sum := "b056046e5715acf3c9be799893d93014adedd8e304265b036d763aebdc1da722", func := "assayer/assayerlaw16.InhabitRows", spec := "inhabitRows", inPlace := ["maps.clone", "internal/bytealg.IndexByteString"], unfollowed := true, recurses := true, apart := false }
def InhabitRowsSaid : Prop := inhabitRowsRow.holds Try.pinned (OpenSpec.ofChange inhabitRowsSpec)

/-- ITS FALSE NEIGHBOUR: 'it returns false'. Refute it at one input. -/
def inhabitRowsWrong : ChangeSpec := { name := "inhabitRows", fn := fun _ => fun
  | [d1, d2, d3] => { results := [.lit (.bool false)], args := [d1, d2, d3] }
  | _ => none }
def InhabitRowsWrongFalsely : Prop := inhabitRowsRow.holds Try.pinned (OpenSpec.ofChange inhabitRowsWrong)

/- THE SECOND FORM. 'bulk': how many values and letters a reading holds, each counted each time it is reached (what is shared counts as often as it is met; a slice's spare places count too). A statement '..UptoSaid' is the law's where the arguments, and the package variables that the reading takes, are together of bulk at most 1048576: NARROWER than '..Said'. Prove '..Said' where nothing that the law and all that it calls make is longer than what came in: it says more and counts as full. Else prove '..UptoSaid'. A law counts once. -/
mutual
def uptoBulk {H : Type} : DataW H → Nat
  | .lit (.string bytes) => bytes.length + 1
  | .lit _ => 1
  | .nil => 1
  | .ptr d => uptoBulk d + 1
  | .slice elems spare => uptoBulkAll elems + uptoBulkAll spare + 1
  | .agg parts => uptoBulkAll parts + 1
  | .iface _ d => uptoBulk d + 1
  | .map entries => uptoBulkEntries entries + 1
  | .held _ => 1
def uptoBulkAll {H : Type} : List (DataW H) → Nat
  | [] => 0
  | d :: r => uptoBulk d + uptoBulkAll r
def uptoBulkEntries {H : Type} : List (Lit × DataW H) → Nat
  | [] => 0
  | x :: r => uptoBulkEntry x + uptoBulkEntries r
def uptoBulkEntry {H : Type} : Lit × DataW H → Nat
  | (.string bytes, d) => bytes.length + uptoBulk d + 1
  | (_, d) => uptoBulk d + 1
 end
def uptoSmall : (H : Type) → List (DataW H) → Bool := fun _ ds => decide (uptoBulkAll ds ≤ 1048576)
def OpenSpec.upto (s : _root_.Go.ChangeSpec) : _root_.Go.OpenSpec := { _root_.Go.OpenSpec.ofChange s with cond := some uptoSmall }

/-- 'assayerlaw16.InhabitDoubles', WHERE WHAT IT READS IS OF BULK AT MOST 1048576: true; the input reads as it did. -/
def inhabitDoublesUptoRow : OpenClaim := { program := "ytfkpjehjkhofhaa", sum := "b056046e5715acf3c9be799893d93014adedd8e304265b036d763aebdc1da722", func := "assayer/assayerlaw16.InhabitDoubles", spec := "inhabitDoubles", inPlace := ["maps.clone", "internal/bytealg.IndexByteString"], unfollowed := true, recurses := true, apart := false, narrowed := true }
def InhabitDoublesUptoSaid : Prop := inhabitDoublesUptoRow.holds Try.pinned (OpenSpec.upto inhabitDoublesSpec)

/-- 'assayerlaw16.InhabitRows', WHERE WHAT IT READS IS OF BULK AT MOST 1048576: true; the input reads as it did. -/
def inhabitRowsUptoRow : OpenClaim := { program := "ytfkpjehjkhofhaa", sum := "b056046e5715acf3c9be799893d93014adedd8e304265b036d763aebdc1da722", func := "assayer/assayerlaw16.InhabitRows", spec := "inhabitRows", inPlace := ["maps.clone", "internal/bytealg.IndexByteString"], unfollowed := true, recurses := true, apart := false, narrowed := true }
def InhabitRowsUptoSaid : Prop := inhabitRowsUptoRow.holds Try.pinned (OpenSpec.upto inhabitRowsSpec)

end Rows
end Go.Proofs.Ytfkpjehjkhofhaa
