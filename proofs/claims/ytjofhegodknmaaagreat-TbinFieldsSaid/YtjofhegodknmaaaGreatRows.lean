/-
  No cell of these rows narrows 'for every input' (looked for: loops, veiled, ifaces, maps, wideKeys, modest, calm, conditions, laid).
  DERIVED. THE GIVEN ROWS OF THIS SEAT. 3 by the template 'for every input the law returns true; each argument reads behind the call as it read before'; 0 by the template 'total and deterministic' (their statements: YtjofhegodknmaaaGreatTotals.lean).
  GIVEN WITH THE SEED: the statements are not yours to turn. If you find one false, say at which input.
  Laid BY PROGRAM, IN A SANDBOX (cutbox-rows.mjs): the forced cells as the released guide's own fill.sh prints them over the translation 12f2e3b5a9328cd4… (all of the seat's roots in one cut). By AI agents, Wed Nov 11 2026. No macro, syntax, notation, axiom, sorry.
-/
import Derived.Test.YtjofhegodknmaaaGreatChecked
import GoSem.Claim
import GoSem.ClaimJoined
import GoSem.ClaimMapViews
import Derived.JoinedTies
import Derived.KernelRfl
namespace Go.Proofs.YtjofhegodknmaaaGreat
/- THE CELL 'sum', in the pinned program and in every row, IS THE sha256 OF THE DUMP (.gsa) THAT YtjofhegodknmaaaGreatProg.lean LOADS. Nothing in Lean hashes anything: it is a label: what it is worth is what the hold of that sum in a sandbox is worth. -/
noncomputable def Tryz.pinned : Pinned := { name := "ytjofhegodknmaaagreat", sum := "12f2e3b5a9328cd406e579ef516db568abc40fd9da431e625ee49d701848ffd2", checked := Tryz.checked }
namespace Rows
def none {H : Type} : Left H := { results := [], args := [] }

/-- 'assayerlaw19.TbinFields': WHATEVER THE INPUT: true; the input reads as it did. -/
def tbinFieldsSpec : ChangeSpec := { name := "tbinFields", fn := fun _ => fun
  | [d1, d2] => { results := [.lit (.bool true)], args := [d1, d2] }
  | _ => none }
def tbinFieldsRow : OpenClaim := { program := "ytjofhegodknmaaagreat", sum := "12f2e3b5a9328cd406e579ef516db568abc40fd9da431e625ee49d701848ffd2", func := "assayer/assayerlaw19.TbinFields", spec := "tbinFields", inPlace := ["internal/bytealg.IndexByteString", "internal/bytealg.abigen_runtime_cmpstring"], unfollowed := true, recurses := true, plainKeys := false, apart := false }
def TbinFieldsSaid : Prop := tbinFieldsRow.holds Tryz.pinned (OpenSpec.ofChange tbinFieldsSpec)

/-- ITS FALSE NEIGHBOUR: 'it returns false'. Refute it at one input. -/
def tbinFieldsWrong : ChangeSpec := { name := "tbinFields", fn := fun _ => fun
  | [d1, d2] => { results := [.lit (.bool false)], args := [d1, d2] }
  | _ => none }
def TbinFieldsWrongFalsely : Prop := tbinFieldsRow.holds Tryz.pinned (OpenSpec.ofChange tbinFieldsWrong)

/-- 'assayerlaw25.WitnessEnums': WHATEVER THE INPUT: true; the input reads as it did. -/
def witnessEnumsSpec : ChangeSpec := { name := "witnessEnums", fn := fun _ => fun
  | [d1, d2] => { results := [.lit (.bool true)], args := [d1, d2] }
  | _ => none }
def witnessEnumsRow : OpenClaim := { program := "ytjofhegodknmaaagreat", sum := "12f2e3b5a9328cd406e579ef516db568abc40fd9da431e625ee49d701848ffd2", func := "assayer/assayerlaw25.WitnessEnums", spec := "witnessEnums", inPlace := ["internal/bytealg.IndexByteString", "maps.clone", "internal/bytealg.abigen_runtime_cmpstring"], unfollowed := true, recurses := true, plainKeys := false, apart := false }
def WitnessEnumsSaid : Prop := witnessEnumsRow.holds Tryz.pinned (OpenSpec.ofChange witnessEnumsSpec)

/-- ITS FALSE NEIGHBOUR: 'it returns false'. Refute it at one input. -/
def witnessEnumsWrong : ChangeSpec := { name := "witnessEnums", fn := fun _ => fun
  | [d1, d2] => { results := [.lit (.bool false)], args := [d1, d2] }
  | _ => none }
def WitnessEnumsWrongFalsely : Prop := witnessEnumsRow.holds Tryz.pinned (OpenSpec.ofChange witnessEnumsWrong)

/-- 'assayerlaw25.WitnessDeep': WHATEVER THE INPUT: true; the input reads as it did. -/
def witnessDeepSpec : ChangeSpec := { name := "witnessDeep", fn := fun _ => fun
  | [d1, d2, d3] => { results := [.lit (.bool true)], args := [d1, d2, d3] }
  | _ => none }
def witnessDeepRow : OpenClaim := { program := "ytjofhegodknmaaagreat", sum := "12f2e3b5a9328cd406e579ef516db568abc40fd9da431e625ee49d701848ffd2", func := "assayer/assayerlaw25.WitnessDeep", spec := "witnessDeep", inPlace := ["internal/bytealg.IndexByteString", "maps.clone", "internal/bytealg.abigen_runtime_cmpstring"], unfollowed := true, recurses := true, plainKeys := false, apart := false }
def WitnessDeepSaid : Prop := witnessDeepRow.holds Tryz.pinned (OpenSpec.ofChange witnessDeepSpec)

/-- ITS FALSE NEIGHBOUR: 'it returns false'. Refute it at one input. -/
def witnessDeepWrong : ChangeSpec := { name := "witnessDeep", fn := fun _ => fun
  | [d1, d2, d3] => { results := [.lit (.bool false)], args := [d1, d2, d3] }
  | _ => none }
def WitnessDeepWrongFalsely : Prop := witnessDeepRow.holds Tryz.pinned (OpenSpec.ofChange witnessDeepWrong)

/- THE SECOND FORM. 'bulk': how many values and letters a reading holds, each counted each time it is reached (what is shared counts as often as it is met; a slice's spare places count too). A statement '..UptoSaid' is the law's where the arguments, and the package variables that the reading takes, are together of bulk at most 1048576: NARROWER than '..Said'. Prove '..Said' where nothing that the law and all that it calls make is longer than what came in: it says more and counts as full. Else prove '..UptoSaid'. A law counts once. -/
mutual
def uptoBulk {H : Type} : DataW H → Nat
  | .lit (.string bytes) => bytes.length + 1
  | .lit _ => 1
  | .nil => 1
  | .ptr d => uptoBulk d + 1
  | .slice elems spare => uptoBulkAll elems + uptoBulkAll spare + 1
  | .agg parts => uptoBulkAll parts + 1
  | .iface _ d => uptoBulk d + 1
  | .map entries => uptoBulkEntries entries + 1
  | .held _ => 1
def uptoBulkAll {H : Type} : List (DataW H) → Nat
  | [] => 0
  | d :: r => uptoBulk d + uptoBulkAll r
def uptoBulkEntries {H : Type} : List (Lit × DataW H) → Nat
  | [] => 0
  | x :: r => uptoBulkEntry x + uptoBulkEntries r
def uptoBulkEntry {H : Type} : Lit × DataW H → Nat
  | (.string bytes, d) => bytes.length + uptoBulk d + 1
  | (_, d) => uptoBulk d + 1
 end
def uptoSmall : (H : Type) → List (DataW H) → Bool := fun _ ds => decide (uptoBulkAll ds ≤ 1048576)
def OpenSpec.upto (s : _root_.Go.ChangeSpec) : _root_.Go.OpenSpec := { _root_.Go.OpenSpec.ofChange s with cond := some uptoSmall }

/-- 'assayerlaw19.TbinFields', WHERE WHAT IT READS IS OF BULK AT MOST 1048576: true; the input reads as it did. -/
def tbinFieldsUptoRow : OpenClaim := { program := "ytjofhegodknmaaagreat", sum := "12f2e3b5a9328cd406e579ef516db568abc40fd9da431e625ee49d701848ffd2", func := "assayer/assayerlaw19.TbinFields", spec := "tbinFields", inPlace := ["internal/bytealg.IndexByteString", "internal/bytealg.abigen_runtime_cmpstring"], unfollowed := true, recurses := true, plainKeys := false, apart := false, narrowed := true }
def TbinFieldsUptoSaid : Prop := tbinFieldsUptoRow.holds Tryz.pinned (OpenSpec.upto tbinFieldsSpec)

/-- 'assayerlaw25.WitnessEnums', WHERE WHAT IT READS IS OF BULK AT MOST 1048576: true; the input reads as it did. -/
def witnessEnumsUptoRow : OpenClaim := { program := "ytjofhegodknmaaagreat", sum := "12f2e3b5a9328cd406e579ef516db568abc40fd9da431e625ee49d701848ffd2", func := "assayer/assayerlaw25.WitnessEnums", spec := "witnessEnums", inPlace := ["internal/bytealg.IndexByteString", "maps.clone", "internal/bytealg.abigen_runtime_cmpstring"], unfollowed := true, recurses := true, plainKeys := false, apart := false, narrowed := true }
def WitnessEnumsUptoSaid : Prop := witnessEnumsUptoRow.holds Tryz.pinned (OpenSpec.upto witnessEnumsSpec)

/-- 'assayerlaw25.WitnessDeep', WHERE WHAT IT READS IS OF BULK AT MOST 1048576: true; the input reads as it did. -/
def witnessDeepUptoRow : OpenClaim := { program := "ytjofhegodknmaaagreat", sum := "12f2e3b5a9328cd406e579ef516db568abc40fd9da431e625ee49d701848ffd2", func := "assayer/assayerlaw25.WitnessDeep", spec := "witnessDeep", inPlace := ["internal/bytealg.IndexByteString", "maps.clone", "internal/bytealg.abigen_runtime_cmpstring"], unfollowed := true, recurses := true, plainKeys := false, apart := false, narrowed := true }
def WitnessDeepUptoSaid : Prop := witnessDeepUptoRow.holds Tryz.pinned (OpenSpec.upto witnessDeepSpec)

end Rows
end Go.Proofs.YtjofhegodknmaaaGreat
