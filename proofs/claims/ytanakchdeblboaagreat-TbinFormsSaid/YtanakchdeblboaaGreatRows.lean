/-
  No cell of these rows narrows 'for every input' (looked for: loops, veiled, ifaces, maps, wideKeys, modest, calm, conditions, laid).
  DERIVED. THE GIVEN ROWS OF THIS SEAT. 8 by the template 'for every input the law returns true; each argument reads behind the call as it read before'; 0 by the template 'total and deterministic' (their statements: YtanakchdeblboaaGreatTotals.lean).
  GIVEN WITH THE SEED: the statements are not yours to turn. If you find one false, say at which input.
  Laid BY PROGRAM, IN A SANDBOX (cutbox-rows.mjs): the forced cells as the released guide's own fill.sh prints them over the translation f83b6bcee48ac954… (all of the seat's roots in one cut). By AI agents, Wed Nov 11 2026. No macro, syntax, notation, axiom, sorry.
-/
import Derived.Test.YtanakchdeblboaaGreatChecked
import GoSem.Claim
import GoSem.ClaimJoined
import GoSem.ClaimMapViews
import Derived.JoinedTies
import Derived.KernelRfl
namespace Go.Proofs.YtanakchdeblboaaGreat
/- THE CELL 'sum', in the pinned program and in every row, IS THE sha256 OF THE DUMP (.gsa) THAT YtanakchdeblboaaGreatProg.lean LOADS. Nothing in Lean hashes anything: it is a label: what it is worth is what the hold of that sum in a sandbox is worth. -/
noncomputable def Tryz.pinned : Pinned := { name := "ytanakchdeblboaagreat", sum := "f83b6bcee48ac95449900da7e5c78039c3281b1a69c5a346927d0e9b6bfeabca", checked := Tryz.checked }
namespace Rows
def none {H : Type} : Left H := { results := [], args := [] }

/-- 'assayerlaw19.TbinEncodes': WHATEVER THE INPUT: true; the input reads as it did. -/
def tbinEncodesSpec : ChangeSpec := { name := "tbinEncodes", fn := fun _ => fun
  | [d1, d2, d3, d4, d5] => { results := [.lit (.bool true)], args := [d1, d2, d3, d4, d5] }
  | _ => none }
def tbinEncodesRow : OpenClaim := { program := "ytanakchdeblboaagreat", sum := "f83b6bcee48ac95449900da7e5c78039c3281b1a69c5a346927d0e9b6bfeabca", func := "assayer/assayerlaw19.TbinEncodes", spec := "tbinEncodes", inPlace := ["internal/bytealg.IndexByteString", "internal/bytealg.abigen_runtime_cmpstring"], unfollowed := true, recurses := true, apart := false }
def TbinEncodesSaid : Prop := tbinEncodesRow.holds Tryz.pinned (OpenSpec.ofChange tbinEncodesSpec)

/-- ITS FALSE NEIGHBOUR: 'it returns false'. Refute it at one input. -/
def tbinEncodesWrong : ChangeSpec := { name := "tbinEncodes", fn := fun _ => fun
  | [d1, d2, d3, d4, d5] => { results := [.lit (.bool false)], args := [d1, d2, d3, d4, d5] }
  | _ => none }
def TbinEncodesWrongFalsely : Prop := tbinEncodesRow.holds Tryz.pinned (OpenSpec.ofChange tbinEncodesWrong)

/-- 'assayerlaw19.TbinBack': WHATEVER THE INPUT: true; the input reads as it did. -/
def tbinBackSpec : ChangeSpec := { name := "tbinBack", fn := fun _ => fun
  | [d1, d2, d3, d4] => { results := [.lit (.bool true)], args := [d1, d2, d3, d4] }
  | _ => none }
def tbinBackRow : OpenClaim := { program := "ytanakchdeblboaagreat", sum := "f83b6bcee48ac95449900da7e5c78039c3281b1a69c5a346927d0e9b6bfeabca", func := "assayer/assayerlaw19.TbinBack", spec := "tbinBack", inPlace := ["internal/bytealg.IndexByteString", "internal/bytealg.abigen_runtime_cmpstring"], unfollowed := true, recurses := true, apart := false }
def TbinBackSaid : Prop := tbinBackRow.holds Tryz.pinned (OpenSpec.ofChange tbinBackSpec)

/-- ITS FALSE NEIGHBOUR: 'it returns false'. Refute it at one input. -/
def tbinBackWrong : ChangeSpec := { name := "tbinBack", fn := fun _ => fun
  | [d1, d2, d3, d4] => { results := [.lit (.bool false)], args := [d1, d2, d3, d4] }
  | _ => none }
def TbinBackWrongFalsely : Prop := tbinBackRow.holds Tryz.pinned (OpenSpec.ofChange tbinBackWrong)

/-- 'assayerlaw19.TbinRight': WHATEVER THE INPUT: true; the input reads as it did. -/
def tbinRightSpec : ChangeSpec := { name := "tbinRight", fn := fun _ => fun
  | [d1, d2, d3] => { results := [.lit (.bool true)], args := [d1, d2, d3] }
  | _ => none }
def tbinRightRow : OpenClaim := { program := "ytanakchdeblboaagreat", sum := "f83b6bcee48ac95449900da7e5c78039c3281b1a69c5a346927d0e9b6bfeabca", func := "assayer/assayerlaw19.TbinRight", spec := "tbinRight", inPlace := ["internal/bytealg.IndexByteString", "internal/bytealg.abigen_runtime_cmpstring"], unfollowed := true, recurses := true, apart := false }
def TbinRightSaid : Prop := tbinRightRow.holds Tryz.pinned (OpenSpec.ofChange tbinRightSpec)

/-- ITS FALSE NEIGHBOUR: 'it returns false'. Refute it at one input. -/
def tbinRightWrong : ChangeSpec := { name := "tbinRight", fn := fun _ => fun
  | [d1, d2, d3] => { results := [.lit (.bool false)], args := [d1, d2, d3] }
  | _ => none }
def TbinRightWrongFalsely : Prop := tbinRightRow.holds Tryz.pinned (OpenSpec.ofChange tbinRightWrong)

/-- 'assayerlaw19.TbinLimits': WHATEVER THE INPUT: true; the input reads as it did. -/
def tbinLimitsSpec : ChangeSpec := { name := "tbinLimits", fn := fun _ => fun
  | [d1, d2] => { results := [.lit (.bool true)], args := [d1, d2] }
  | _ => none }
def tbinLimitsRow : OpenClaim := { program := "ytanakchdeblboaagreat", sum := "f83b6bcee48ac95449900da7e5c78039c3281b1a69c5a346927d0e9b6bfeabca", func := "assayer/assayerlaw19.TbinLimits", spec := "tbinLimits", inPlace := ["internal/bytealg.IndexByteString", "internal/bytealg.abigen_runtime_cmpstring"], unfollowed := true, recurses := true, apart := false }
def TbinLimitsSaid : Prop := tbinLimitsRow.holds Tryz.pinned (OpenSpec.ofChange tbinLimitsSpec)

/-- ITS FALSE NEIGHBOUR: 'it returns false'. Refute it at one input. -/
def tbinLimitsWrong : ChangeSpec := { name := "tbinLimits", fn := fun _ => fun
  | [d1, d2] => { results := [.lit (.bool false)], args := [d1, d2] }
  | _ => none }
def TbinLimitsWrongFalsely : Prop := tbinLimitsRow.holds Tryz.pinned (OpenSpec.ofChange tbinLimitsWrong)

/-- 'assayerlaw19.TbinSkipped': WHATEVER THE INPUT: true; the input reads as it did. -/
def tbinSkippedSpec : ChangeSpec := { name := "tbinSkipped", fn := fun _ => fun
  | [d1, d2, d3] => { results := [.lit (.bool true)], args := [d1, d2, d3] }
  | _ => none }
def tbinSkippedRow : OpenClaim := { program := "ytanakchdeblboaagreat", sum := "f83b6bcee48ac95449900da7e5c78039c3281b1a69c5a346927d0e9b6bfeabca", func := "assayer/assayerlaw19.TbinSkipped", spec := "tbinSkipped", inPlace := ["internal/bytealg.IndexByteString", "internal/bytealg.abigen_runtime_cmpstring"], unfollowed := true, recurses := true, apart := false }
def TbinSkippedSaid : Prop := tbinSkippedRow.holds Tryz.pinned (OpenSpec.ofChange tbinSkippedSpec)

/-- ITS FALSE NEIGHBOUR: 'it returns false'. Refute it at one input. -/
def tbinSkippedWrong : ChangeSpec := { name := "tbinSkipped", fn := fun _ => fun
  | [d1, d2, d3] => { results := [.lit (.bool false)], args := [d1, d2, d3] }
  | _ => none }
def TbinSkippedWrongFalsely : Prop := tbinSkippedRow.holds Tryz.pinned (OpenSpec.ofChange tbinSkippedWrong)

/-- 'assayerlaw19.TbinForms': WHATEVER THE INPUT: true; the input reads as it did. -/
def tbinFormsSpec : ChangeSpec := { name := "tbinForms", fn := fun _ => fun
  | [] => { results := [.lit (.bool true)], args := [] }
  | _ => none }
def tbinFormsRow : OpenClaim := { program := "ytanakchdeblboaagreat", sum := "f83b6bcee48ac95449900da7e5c78039c3281b1a69c5a346927d0e9b6bfeabca", func := "assayer/assayerlaw19.TbinForms", spec := "tbinForms", inPlace := ["internal/bytealg.IndexByteString", "internal/bytealg.abigen_runtime_cmpstring"], unfollowed := true, recurses := true, apart := false }
def TbinFormsSaid : Prop := tbinFormsRow.holds Tryz.pinned (OpenSpec.ofChange tbinFormsSpec)

/-- ITS FALSE NEIGHBOUR: 'it returns false'. Refute it at one input. -/
def tbinFormsWrong : ChangeSpec := { name := "tbinForms", fn := fun _ => fun
  | [] => { results := [.lit (.bool false)], args := [] }
  | _ => none }
def TbinFormsWrongFalsely : Prop := tbinFormsRow.holds Tryz.pinned (OpenSpec.ofChange tbinFormsWrong)

/-- 'assayerlaw19.TbinSizes': WHATEVER THE INPUT: true; the input reads as it did. -/
def tbinSizesSpec : ChangeSpec := { name := "tbinSizes", fn := fun _ => fun
  | [d1, d2] => { results := [.lit (.bool true)], args := [d1, d2] }
  | _ => none }
def tbinSizesRow : OpenClaim := { program := "ytanakchdeblboaagreat", sum := "f83b6bcee48ac95449900da7e5c78039c3281b1a69c5a346927d0e9b6bfeabca", func := "assayer/assayerlaw19.TbinSizes", spec := "tbinSizes", inPlace := ["internal/bytealg.IndexByteString", "internal/bytealg.abigen_runtime_cmpstring"], unfollowed := true, recurses := true, apart := false }
def TbinSizesSaid : Prop := tbinSizesRow.holds Tryz.pinned (OpenSpec.ofChange tbinSizesSpec)

/-- ITS FALSE NEIGHBOUR: 'it returns false'. Refute it at one input. -/
def tbinSizesWrong : ChangeSpec := { name := "tbinSizes", fn := fun _ => fun
  | [d1, d2] => { results := [.lit (.bool false)], args := [d1, d2] }
  | _ => none }
def TbinSizesWrongFalsely : Prop := tbinSizesRow.holds Tryz.pinned (OpenSpec.ofChange tbinSizesWrong)

/-- 'assayerlaw19.TbinFields': WHATEVER THE INPUT: true; the input reads as it did. -/
def tbinFieldsSpec : ChangeSpec := { name := "tbinFields", fn := fun _ => fun
  | [d1, d2] => { results := [.lit (.bool true)], args := [d1, d2] }
  | _ => none }
def tbinFieldsRow : OpenClaim := { program := "ytanakchdeblboaagreat", sum := "f83b6bcee48ac95449900da7e5c78039c3281b1a69c5a346927d0e9b6bfeabca", func := "assayer/assayerlaw19.TbinFields", spec := "tbinFields", inPlace := ["internal/bytealg.IndexByteString", "internal/bytealg.abigen_runtime_cmpstring"], unfollowed := true, recurses := true, apart := false }
def TbinFieldsSaid : Prop := tbinFieldsRow.holds Tryz.pinned (OpenSpec.ofChange tbinFieldsSpec)

/-- ITS FALSE NEIGHBOUR: 'it returns false'. Refute it at one input. -/
def tbinFieldsWrong : ChangeSpec := { name := "tbinFields", fn := fun _ => fun
  | [d1, d2] => { results := [.lit (.bool false)], args := [d1, d2] }
  | _ => none }
def TbinFieldsWrongFalsely : Prop := tbinFieldsRow.holds Tryz.pinned (OpenSpec.ofChange tbinFieldsWrong)

/- THE SECOND FORM. 'bulk': how many values and letters a reading holds, each counted each time it is reached (what is shared counts as often as it is met; a slice's spare places count too). A statement '..UptoSaid' is the law's where the arguments, and the package variables that the reading takes, are together of bulk at most 1048576: NARROWER than '..Said'. Prove '..Said' where nothing that the law and all that it calls make is longer than what came in: it says more and counts as full. Else prove '..UptoSaid'. A law counts once. -/
mutual
def uptoBulk {H : Type} : DataW H → Nat
  | .lit (.string bytes) => bytes.length + 1
  | .lit _ => 1
  | .nil => 1
  | .ptr d => uptoBulk d + 1
  | .slice elems spare => uptoBulkAll elems + uptoBulkAll spare + 1
  | .agg parts => uptoBulkAll parts + 1
  | .iface _ d => uptoBulk d + 1
  | .map entries => uptoBulkEntries entries + 1
  | .held _ => 1
def uptoBulkAll {H : Type} : List (DataW H) → Nat
  | [] => 0
  | d :: r => uptoBulk d + uptoBulkAll r
def uptoBulkEntries {H : Type} : List (Lit × DataW H) → Nat
  | [] => 0
  | x :: r => uptoBulkEntry x + uptoBulkEntries r
def uptoBulkEntry {H : Type} : Lit × DataW H → Nat
  | (.string bytes, d) => bytes.length + uptoBulk d + 1
  | (_, d) => uptoBulk d + 1
 end
def uptoSmall : (H : Type) → List (DataW H) → Bool := fun _ ds => decide (uptoBulkAll ds ≤ 1048576)
def OpenSpec.upto (s : _root_.Go.ChangeSpec) : _root_.Go.OpenSpec := { _root_.Go.OpenSpec.ofChange s with cond := some uptoSmall }

/-- 'assayerlaw19.TbinEncodes', WHERE WHAT IT READS IS OF BULK AT MOST 1048576: true; the input reads as it did. -/
def tbinEncodesUptoRow : OpenClaim := { program := "ytanakchdeblboaagreat", sum := "f83b6bcee48ac95449900da7e5c78039c3281b1a69c5a346927d0e9b6bfeabca", func := "assayer/assayerlaw19.TbinEncodes", spec := "tbinEncodes", inPlace := ["internal/bytealg.IndexByteString", "internal/bytealg.abigen_runtime_cmpstring"], unfollowed := true, recurses := true, apart := false, narrowed := true }
def TbinEncodesUptoSaid : Prop := tbinEncodesUptoRow.holds Tryz.pinned (OpenSpec.upto tbinEncodesSpec)

/-- 'assayerlaw19.TbinBack', WHERE WHAT IT READS IS OF BULK AT MOST 1048576: true; the input reads as it did. -/
def tbinBackUptoRow : OpenClaim := { program := "ytanakchdeblboaagreat", sum := "f83b6bcee48ac95449900da7e5c78039c3281b1a69c5a346927d0e9b6bfeabca", func := "assayer/assayerlaw19.TbinBack", spec := "tbinBack", inPlace := ["internal/bytealg.IndexByteString", "internal/bytealg.abigen_runtime_cmpstring"], unfollowed := true, recurses := true, apart := false, narrowed := true }
def TbinBackUptoSaid : Prop := tbinBackUptoRow.holds Tryz.pinned (OpenSpec.upto tbinBackSpec)

/-- 'assayerlaw19.TbinRight', WHERE WHAT IT READS IS OF BULK AT MOST 1048576: true; the input reads as it did. -/
def tbinRightUptoRow : OpenClaim := { program := "ytanakchdeblboaagreat", sum := "f83b6bcee48ac95449900da7e5c78039c3281b1a69c5a346927d0e9b6bfeabca", func := "assayer/assayerlaw19.TbinRight", spec := "tbinRight", inPlace := ["internal/bytealg.IndexByteString", "internal/bytealg.abigen_runtime_cmpstring"], unfollowed := true, recurses := true, apart := false, narrowed := true }
def TbinRightUptoSaid : Prop := tbinRightUptoRow.holds Tryz.pinned (OpenSpec.upto tbinRightSpec)

/-- 'assayerlaw19.TbinLimits', WHERE WHAT IT READS IS OF BULK AT MOST 1048576: true; the input reads as it did. -/
def tbinLimitsUptoRow : OpenClaim := { program := "ytanakchdeblboaagreat", sum := "f83b6bcee48ac95449900da7e5c78039c3281b1a69c5a346927d0e9b6bfeabca", func := "assayer/assayerlaw19.TbinLimits", spec := "tbinLimits", inPlace := ["internal/bytealg.IndexByteString", "internal/bytealg.abigen_runtime_cmpstring"], unfollowed := true, recurses := true, apart := false, narrowed := true }
def TbinLimitsUptoSaid : Prop := tbinLimitsUptoRow.holds Tryz.pinned (OpenSpec.upto tbinLimitsSpec)

/-- 'assayerlaw19.TbinSkipped', WHERE WHAT IT READS IS OF BULK AT MOST 1048576: true; the input reads as it did. -/
def tbinSkippedUptoRow : OpenClaim := { program := "ytanakchdeblboaagreat", sum := "f83b6bcee48ac95449900da7e5c78039c3281b1a69c5a346927d0e9b6bfeabca", func := "assayer/assayerlaw19.TbinSkipped", spec := "tbinSkipped", inPlace := ["internal/bytealg.IndexByteString", "internal/bytealg.abigen_runtime_cmpstring"], unfollowed := true, recurses := true, apart := false, narrowed := true }
def TbinSkippedUptoSaid : Prop := tbinSkippedUptoRow.holds Tryz.pinned (OpenSpec.upto tbinSkippedSpec)

/-- 'assayerlaw19.TbinForms', WHERE WHAT IT READS IS OF BULK AT MOST 1048576: true; the input reads as it did. -/
def tbinFormsUptoRow : OpenClaim := { program := "ytanakchdeblboaagreat", sum := "f83b6bcee48ac95449900da7e5c78039c3281b1a69c5a346927d0e9b6bfeabca", func := "assayer/assayerlaw19.TbinForms", spec := "tbinForms", inPlace := ["internal/bytealg.IndexByteString", "internal/bytealg.abigen_runtime_cmpstring"], unfollowed := true, recurses := true, apart := false, narrowed := true }
def TbinFormsUptoSaid : Prop := tbinFormsUptoRow.holds Tryz.pinned (OpenSpec.upto tbinFormsSpec)

/-- 'assayerlaw19.TbinSizes', WHERE WHAT IT READS IS OF BULK AT MOST 1048576: true; the input reads as it did. -/
def tbinSizesUptoRow : OpenClaim := { program := "ytanakchdeblboaagreat", sum := "f83b6bcee48ac95449900da7e5c78039c3281b1a69c5a346927d0e9b6bfeabca", func := "assayer/assayerlaw19.TbinSizes", spec := "tbinSizes", inPlace := ["internal/bytealg.IndexByteString", "internal/bytealg.abigen_runtime_cmpstring"], unfollowed := true, recurses := true, apart := false, narrowed := true }
def TbinSizesUptoSaid : Prop := tbinSizesUptoRow.holds Tryz.pinned (OpenSpec.upto tbinSizesSpec)

/-- 'assayerlaw19.TbinFields', WHERE WHAT IT READS IS OF BULK AT MOST 1048576: true; the input reads as it did. -/
def tbinFieldsUptoRow : OpenClaim := { program := "ytanakchdeblboaagreat", sum := "f83b6bcee48ac95449900da7e5c78039c3281b1a69c5a346927d0e9b6bfeabca", func := "assayer/assayerlaw19.TbinFields", spec := "tbinFields", inPlace := ["internal/bytealg.IndexByteString", "internal/bytealg.abigen_runtime_cmpstring"], unfollowed := true, recurses := true, apart := false, narrowed := true }
def TbinFieldsUptoSaid : Prop := tbinFieldsUptoRow.holds Tryz.pinned (OpenSpec.upto tbinFieldsSpec)

end Rows
end Go.Proofs.YtanakchdeblboaaGreat
