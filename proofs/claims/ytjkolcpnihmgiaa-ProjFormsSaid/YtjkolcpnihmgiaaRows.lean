/-
  No cell of these rows narrows 'for every input' (looked for: loops, veiled, ifaces, maps, wideKeys, modest, calm, conditions, laid).
  DERIVED. THE GIVEN ROWS OF THIS SEAT. 2 by the template 'for every input the law returns true; each argument reads behind the call as it read before'; 0 by the template 'total and deterministic' (their statements: YtjkolcpnihmgiaaTotals.lean).
  GIVEN WITH THE SEED: the statements are not yours to turn. If you find one false, say at which input.
  Laid BY PROGRAM, IN A SANDBOX (cutbox-rows.mjs): the forced cells as the released guide's own fill.sh prints them over the translation b416aa78617d7309… (all of the seat's roots in one cut). By AI agents, Wed Nov 11 2026. No macro, syntax, notation, axiom, sorry.
-/
import Derived.Test.YtjkolcpnihmgiaaChecked
import GoSem.Claim
import GoSem.ClaimJoined
import GoSem.ClaimMapViews
import Derived.JoinedTies
import Derived.KernelRfl
namespace Go.Proofs.Ytjkolcpnihmgiaa
/- THE CELL 'sum', in the pinned program and in every row, IS THE sha256 OF THE DUMP (.gsa) THAT YtjkolcpnihmgiaaProg.lean LOADS. Nothing in Lean hashes anything: it is a label: what it is worth is what the hold of that sum in a sandbox is worth. -/
noncomputable def Try.pinned : Pinned := { name := "ytjkolcpnihmgiaa", sum := "b416aa78617d73090e5b31ae2d25508f37d40e16ca1ab53df19dbe7b58aa99e8", checked := Try.checked }
namespace Rows
def none {H : Type} : Left H := { results := [], args := [] }

/-- 'assayerlaw23.ProjForms': WHATEVER THE INPUT: true; the input reads as it did. -/
def projFormsSpec : ChangeSpec := { name := "projForms", fn := fun _ => fun
  | [] => { results := [.lit (.bool true)], args := [] }
  | _ => none }
def projFormsRow : OpenClaim := { program := "ytjkolcpnihmgiaa", sum := "b416aa78617d73090e5b31ae2d25508f37d40e16ca1ab53df19dbe7b58aa99e8", func := "assayer/assayerlaw23.ProjForms", spec := "projForms", inPlace := ["internal/bytealg.IndexByteString", "internal/bytealg.abigen_runtime_cmpstring"], unfollowed := true, recurses := true, apart := false }
def ProjFormsSaid : Prop := projFormsRow.holds Try.pinned (OpenSpec.ofChange projFormsSpec)

/-- ITS FALSE NEIGHBOUR: 'it returns false'. Refute it at one input. -/
def projFormsWrong : ChangeSpec := { name := "projForms", fn := fun _ => fun
  | [] => { results := [.lit (.bool false)], args := [] }
  | _ => none }
def ProjFormsWrongFalsely : Prop := projFormsRow.holds Try.pinned (OpenSpec.ofChange projFormsWrong)

/-- 'assayerlaw23.ProjDrops': WHATEVER THE INPUT: true; the input reads as it did. -/
def projDropsSpec : ChangeSpec := { name := "projDrops", fn := fun _ => fun
  | [d1, d2, d3] => { results := [.lit (.bool true)], args := [d1, d2, d3] }
  | _ => none }
def projDropsRow : OpenClaim := { program := "ytjkolcpnihmgiaa", sum := "b416aa78617d73090e5b31ae2d25508f37d40e16ca1ab53df19dbe7b58aa99e8", func := "assayer/assayerlaw23.ProjDrops", spec := "projDrops", inPlace := ["internal/bytealg.IndexByteString", "internal/bytealg.abigen_runtime_cmpstring"], unfollowed := true, recurses := true, apart := false }
def ProjDropsSaid : Prop := projDropsRow.holds Try.pinned (OpenSpec.ofChange projDropsSpec)

/-- ITS FALSE NEIGHBOUR: 'it returns false'. Refute it at one input. -/
def projDropsWrong : ChangeSpec := { name := "projDrops", fn := fun _ => fun
  | [d1, d2, d3] => { results := [.lit (.bool false)], args := [d1, d2, d3] }
  | _ => none }
def ProjDropsWrongFalsely : Prop := projDropsRow.holds Try.pinned (OpenSpec.ofChange projDropsWrong)

/- THE SECOND FORM. 'bulk': how many values and letters a reading holds, each counted each time it is reached (what is shared counts as often as it is met; a slice's spare places count too). A statement '..UptoSaid' is the law's where the arguments, and the package variables that the reading takes, are together of bulk at most 1048576: NARROWER than '..Said'. Prove '..Said' where nothing that the law and all that it calls make is longer than what came in: it says more and counts as full. Else prove '..UptoSaid'. A law counts once. -/
mutual
def uptoBulk {H : Type} : DataW H → Nat
  | .lit (.string bytes) => bytes.length + 1
  | .lit _ => 1
  | .nil => 1
  | .ptr d => uptoBulk d + 1
  | .slice elems spare => uptoBulkAll elems + uptoBulkAll spare + 1
  | .agg parts => uptoBulkAll parts + 1
  | .iface _ d => uptoBulk d + 1
  | .map entries => uptoBulkEntries entries + 1
  | .held _ => 1
def uptoBulkAll {H : Type} : List (DataW H) → Nat
  | [] => 0
  | d :: r => uptoBulk d + uptoBulkAll r
def uptoBulkEntries {H : Type} : List (Lit × DataW H) → Nat
  | [] => 0
  | x :: r => uptoBulkEntry x + uptoBulkEntries r
def uptoBulkEntry {H : Type} : Lit × DataW H → Nat
  | (.string bytes, d) => bytes.length + uptoBulk d + 1
  | (_, d) => uptoBulk d + 1
 end
def uptoSmall : (H : Type) → List (DataW H) → Bool := fun _ ds => decide (uptoBulkAll ds ≤ 1048576)
def OpenSpec.upto (s : _root_.Go.ChangeSpec) : _root_.Go.OpenSpec := { _root_.Go.OpenSpec.ofChange s with cond := some uptoSmall }

/-- 'assayerlaw23.ProjForms', WHERE WHAT IT READS IS OF BULK AT MOST 1048576: true; the input reads as it did. -/
def projFormsUptoRow : OpenClaim := { program := "ytjkolcpnihmgiaa", sum := "b416aa78617d73090e5b31ae2d25508f37d40e16ca1ab53df19dbe7b58aa99e8", func := "assayer/assayerlaw23.ProjForms", spec := "projForms", inPlace := ["internal/bytealg.IndexByteString", "internal/bytealg.abigen_runtime_cmpstring"], unfollowed := true, recurses := true, apart := false, narrowed := true }
def ProjFormsUptoSaid : Prop := projFormsUptoRow.holds Try.pinned (OpenSpec.upto projFormsSpec)

/-- 'assayerlaw23.ProjDrops', WHERE WHAT IT READS IS OF BULK AT MOST 1048576: true; the input reads as it did. -/
def projDropsUptoRow : OpenClaim := { program := "ytjkolcpnihmgiaa", sum := "b416aa78617d73090e5b31ae2d25508f37d40e16ca1ab53df19dbe7b58aa99e8", func := "assayer/assayerlaw23.ProjDrops", spec := "projDrops", inPlace := ["internal/bytealg.IndexByteString", "internal/bytealg.abigen_runtime_cmpstring"], unfollowed := true, recurses := true, apart := false, narrowed := true }
def ProjDropsUptoSaid : Prop := projDropsUptoRow.holds Try.pinned (OpenSpec.upto projDropsSpec)

end Rows
end Go.Proofs.Ytjkolcpnihmgiaa
