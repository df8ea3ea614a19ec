/-
  No cell of these rows narrows 'for every input' (looked for: loops, veiled, ifaces, maps, wideKeys, modest, calm, conditions, laid).
  DERIVED. THE GIVEN ROWS OF THIS SEAT. 3 by the template 'for every input the law returns true; each argument reads behind the call as it read before'; 0 by the template 'total and deterministic' (their statements: YtdgihefkagoicaaGreatTotals.lean).
  GIVEN WITH THE SEED: the statements are not yours to turn. If you find one false, say at which input.
  Laid BY PROGRAM, IN A SANDBOX (cutbox-rows.mjs): the forced cells as the released guide's own fill.sh prints them over the translation b7a7fb88e225551d… (all of the seat's roots in one cut). By AI agents, Wed Nov 11 2026. No macro, syntax, notation, axiom, sorry.
-/
import Derived.Test.YtdgihefkagoicaaGreatChecked
import GoSem.Claim
import GoSem.ClaimJoined
import GoSem.ClaimMapViews
import Derived.JoinedTies
import Derived.KernelRfl
namespace Go.Proofs.YtdgihefkagoicaaGreat
/- THE CELL 'sum', in the pinned program and in every row, IS THE sha256 OF THE DUMP (.gsa) THAT YtdgihefkagoicaaGreatProg.lean LOADS. Nothing in Lean hashes anything: it is a label: what it is worth is what the hold of that sum in a sandbox is worth. -/
noncomputable def Tryz.pinned : Pinned := { name := "ytdgihefkagoicaagreat", sum := "b7a7fb88e225551dc77e8861b27b18fdb4b919e054af9d584c38d2b60f72670e", checked := Tryz.checked }
namespace Rows
def none {H : Type} : Left H := { results := [], args := [] }

/-- 'assayerlaw20.TcompForms': WHATEVER THE INPUT: true; the input reads as it did. -/
def tcompFormsSpec : ChangeSpec := { name := "tcompForms", fn := fun _ => fun
  | [] => { results := [.lit (.bool true)], args := [] }
  | _ => none }
def tcompFormsRow : OpenClaim := { program := "ytdgihefkagoicaagreat", sum := "b7a7fb88e225551dc77e8861b27b18fdb4b919e054af9d584c38d2b60f72670e", func := "assayer/assayerlaw20.TcompForms", spec := "tcompForms", inPlace := ["internal/bytealg.IndexByteString", "internal/bytealg.abigen_runtime_cmpstring"], unfollowed := true, recurses := true, apart := false }
def TcompFormsSaid : Prop := tcompFormsRow.holds Tryz.pinned (OpenSpec.ofChange tcompFormsSpec)

/-- ITS FALSE NEIGHBOUR: 'it returns false'. Refute it at one input. -/
def tcompFormsWrong : ChangeSpec := { name := "tcompForms", fn := fun _ => fun
  | [] => { results := [.lit (.bool false)], args := [] }
  | _ => none }
def TcompFormsWrongFalsely : Prop := tcompFormsRow.holds Tryz.pinned (OpenSpec.ofChange tcompFormsWrong)

/-- 'assayerlaw20.TcompShorts': WHATEVER THE INPUT: true; the input reads as it did. -/
def tcompShortsSpec : ChangeSpec := { name := "tcompShorts", fn := fun _ => fun
  | [d] => { results := [.lit (.bool true)], args := [d] }
  | _ => none }
def tcompShortsRow : OpenClaim := { program := "ytdgihefkagoicaagreat", sum := "b7a7fb88e225551dc77e8861b27b18fdb4b919e054af9d584c38d2b60f72670e", func := "assayer/assayerlaw20.TcompShorts", spec := "tcompShorts", inPlace := ["internal/bytealg.IndexByteString", "internal/bytealg.abigen_runtime_cmpstring"], unfollowed := true, recurses := true, apart := false }
def TcompShortsSaid : Prop := tcompShortsRow.holds Tryz.pinned (OpenSpec.ofChange tcompShortsSpec)

/-- ITS FALSE NEIGHBOUR: 'it returns false'. Refute it at one input. -/
def tcompShortsWrong : ChangeSpec := { name := "tcompShorts", fn := fun _ => fun
  | [d] => { results := [.lit (.bool false)], args := [d] }
  | _ => none }
def TcompShortsWrongFalsely : Prop := tcompShortsRow.holds Tryz.pinned (OpenSpec.ofChange tcompShortsWrong)

/-- 'assayerlaw22.RpcForms': WHATEVER THE INPUT: true; the input reads as it did. -/
def rpcFormsSpec : ChangeSpec := { name := "rpcForms", fn := fun _ => fun
  | [] => { results := [.lit (.bool true)], args := [] }
  | _ => none }
def rpcFormsRow : OpenClaim := { program := "ytdgihefkagoicaagreat", sum := "b7a7fb88e225551dc77e8861b27b18fdb4b919e054af9d584c38d2b60f72670e", func := "assayer/assayerlaw22.RpcForms", spec := "rpcForms", inPlace := ["internal/bytealg.IndexByteString", "internal/bytealg.abigen_runtime_cmpstring"], unfollowed := true, recurses := true, apart := false }
def RpcFormsSaid : Prop := rpcFormsRow.holds Tryz.pinned (OpenSpec.ofChange rpcFormsSpec)

/-- ITS FALSE NEIGHBOUR: 'it returns false'. Refute it at one input. -/
def rpcFormsWrong : ChangeSpec := { name := "rpcForms", fn := fun _ => fun
  | [] => { results := [.lit (.bool false)], args := [] }
  | _ => none }
def RpcFormsWrongFalsely : Prop := rpcFormsRow.holds Tryz.pinned (OpenSpec.ofChange rpcFormsWrong)

/- THE SECOND FORM. 'bulk': how many values and letters a reading holds, each counted each time it is reached (what is shared counts as often as it is met; a slice's spare places count too). A statement '..UptoSaid' is the law's where the arguments, and the package variables that the reading takes, are together of bulk at most 1048576: NARROWER than '..Said'. Prove '..Said' where nothing that the law and all that it calls make is longer than what came in: it says more and counts as full. Else prove '..UptoSaid'. A law counts once. -/
mutual
def uptoBulk {H : Type} : DataW H → Nat
  | .lit (.string bytes) => bytes.length + 1
  | .lit _ => 1
  | .nil => 1
  | .ptr d => uptoBulk d + 1
  | .slice elems spare => uptoBulkAll elems + uptoBulkAll spare + 1
  | .agg parts => uptoBulkAll parts + 1
  | .iface _ d => uptoBulk d + 1
  | .map entries => uptoBulkEntries entries + 1
  | .held _ => 1
def uptoBulkAll {H : Type} : List (DataW H) → Nat
  | [] => 0
  | d :: r => uptoBulk d + uptoBulkAll r
def uptoBulkEntries {H : Type} : List (Lit × DataW H) → Nat
  | [] => 0
  | x :: r => uptoBulkEntry x + uptoBulkEntries r
def uptoBulkEntry {H : Type} : Lit × DataW H → Nat
  | (.string bytes, d) => bytes.length + uptoBulk d + 1
  | (_, d) => uptoBulk d + 1
 end
def uptoSmall : (H : Type) → List (DataW H) → Bool := fun _ ds => decide (uptoBulkAll ds ≤ 1048576)
def OpenSpec.upto (s : _root_.Go.ChangeSpec) : _root_.Go.OpenSpec := { _root_.Go.OpenSpec.ofChange s with cond := some uptoSmall }

/-- 'assayerlaw20.TcompForms', WHERE WHAT IT READS IS OF BULK AT MOST 1048576: true; the input reads as it did. -/
def tcompFormsUptoRow : OpenClaim := { program := "ytdgihefkagoicaagreat", sum := "b7a7fb88e225551dc77e8861b27b18fdb4b919e054af9d584c38d2b60f72670e", func := "assayer/assayerlaw20.TcompForms", spec := "tcompForms", inPlace := ["internal/bytealg.IndexByteString", "internal/bytealg.abigen_runtime_cmpstring"], unfollowed := true, recurses := true, apart := false, narrowed := true }
def TcompFormsUptoSaid : Prop := tcompFormsUptoRow.holds Tryz.pinned (OpenSpec.upto tcompFormsSpec)

/-- 'assayerlaw20.TcompShorts', WHERE WHAT IT READS IS OF BULK AT MOST 1048576: true; the input reads as it did. -/
def tcompShortsUptoRow : OpenClaim := { program := "ytdgihefkagoicaagreat", sum := "b7a7fb88e225551dc77e8861b27b18fdb4b919e054af9d584c38d2b60f72670e", func := "assayer/assayerlaw20.TcompShorts", spec := "tcompShorts", inPlace := ["internal/bytealg.IndexByteString", "internal/bytealg.abigen_runtime_cmpstring"], unfollowed := true, recurses := true, apart := false, narrowed := true }
def TcompShortsUptoSaid : Prop := tcompShortsUptoRow.holds Tryz.pinned (OpenSpec.upto tcompShortsSpec)

/-- 'assayerlaw22.RpcForms', WHERE WHAT IT READS IS OF BULK AT MOST 1048576: true; the input reads as it did. -/
def rpcFormsUptoRow : OpenClaim := { program := "ytdgihefkagoicaagreat", sum := "b7a7fb88e225551dc77e8861b27b18fdb4b919e054af9d584c38d2b60f72670e", func := "assayer/assayerlaw22.RpcForms", spec := "rpcForms", inPlace := ["internal/bytealg.IndexByteString", "internal/bytealg.abigen_runtime_cmpstring"], unfollowed := true, recurses := true, apart := false, narrowed := true }
def RpcFormsUptoSaid : Prop := rpcFormsUptoRow.holds Tryz.pinned (OpenSpec.upto rpcFormsSpec)

end Rows
end Go.Proofs.YtdgihefkagoicaaGreat
