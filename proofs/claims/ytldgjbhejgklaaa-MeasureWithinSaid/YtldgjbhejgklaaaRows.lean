/-
  NARROWER THAN 'FOR EVERY INPUT', by the rows' own cells (each row's printed sentence says how): MeasureAll: loops · MeasureWithin: loops.
  DERIVED. THE GIVEN ROWS OF THIS SEAT. 3 by the template 'for every input the law returns true; each argument reads behind the call as it read before'; 0 by the template 'total and deterministic' (their statements: YtldgjbhejgklaaaTotals.lean).
  GIVEN WITH THE SEED: the statements are not yours to turn. If you find one false, say at which input.
  Laid BY PROGRAM, IN A SANDBOX (cutbox-rows.mjs): the forced cells as the released guide's own fill.sh prints them over the translation d9a5cb397803acbf… (all of the seat's roots in one cut). By AI agents, Wed Nov 11 2026. No macro, syntax, notation, axiom, sorry.
-/
import Derived.Test.YtldgjbhejgklaaaChecked
import GoSem.Claim
import GoSem.ClaimJoined
import GoSem.ClaimMapViews
import Derived.JoinedTies
import Derived.KernelRfl
namespace Go.Proofs.Ytldgjbhejgklaaa
/- THE CELL 'sum', in the pinned program and in every row, IS THE sha256 OF THE DUMP (.gsa) THAT YtldgjbhejgklaaaProg.lean LOADS. Nothing in Lean hashes anything: it is a label: what it is worth is what the hold of that sum in a sandbox is worth. -/
noncomputable def Try.pinned : Pinned := { name := "ytldgjbhejgklaaa", sum := "d9a5cb397803acbf5f197941015fd990d9bc569810d2b389b53964d92c948aaa", checked := Try.checked }
namespace Rows
def none {H : Type} : Left H := { results := [], args := [] }

/-- 'assayerlaw18.MeasureAll': WHATEVER THE INPUT: true; the input reads as it did. -/
def measureAllSpec : ChangeSpec := { name := "measureAll", fn := fun _ => fun
  | [d] => { results := [.lit (.bool true)], args := [d] }
  | _ => none }
def measureAllRow : OpenClaim := { program := "ytldgjbhejgklaaa", sum := "d9a5cb397803acbf5f197941015fd990d9bc569810d2b389b53964d92c948aaa", func := "assayer/assayerlaw18.MeasureAll", spec := "measureAll", recurses := true, loops := true, apart := false }
def MeasureAllSaid : Prop := measureAllRow.holds Try.pinned (OpenSpec.ofChange measureAllSpec)

/-- ITS FALSE NEIGHBOUR: 'it returns false'. Refute it at one input. -/
def measureAllWrong : ChangeSpec := { name := "measureAll", fn := fun _ => fun
  | [d] => { results := [.lit (.bool false)], args := [d] }
  | _ => none }
def MeasureAllWrongFalsely : Prop := measureAllRow.holds Try.pinned (OpenSpec.ofChange measureAllWrong)

/-- 'assayerlaw18.MeasureWithin': WHATEVER THE INPUT: true; the input reads as it did. -/
def measureWithinSpec : ChangeSpec := { name := "measureWithin", fn := fun _ => fun
  | [d] => { results := [.lit (.bool true)], args := [d] }
  | _ => none }
def measureWithinRow : OpenClaim := { program := "ytldgjbhejgklaaa", sum := "d9a5cb397803acbf5f197941015fd990d9bc569810d2b389b53964d92c948aaa", func := "assayer/assayerlaw18.MeasureWithin", spec := "measureWithin", recurses := true, loops := true, apart := false }
def MeasureWithinSaid : Prop := measureWithinRow.holds Try.pinned (OpenSpec.ofChange measureWithinSpec)

/-- ITS FALSE NEIGHBOUR: 'it returns false'. Refute it at one input. -/
def measureWithinWrong : ChangeSpec := { name := "measureWithin", fn := fun _ => fun
  | [d] => { results := [.lit (.bool false)], args := [d] }
  | _ => none }
def MeasureWithinWrongFalsely : Prop := measureWithinRow.holds Try.pinned (OpenSpec.ofChange measureWithinWrong)

/-- 'assayerlaw18.MeasureLists': WHATEVER THE INPUT: true; the input reads as it did. -/
def measureListsSpec : ChangeSpec := { name := "measureLists", fn := fun _ => fun
  | [d1, d2] => { results := [.lit (.bool true)], args := [d1, d2] }
  | _ => none }
def measureListsRow : OpenClaim := { program := "ytldgjbhejgklaaa", sum := "d9a5cb397803acbf5f197941015fd990d9bc569810d2b389b53964d92c948aaa", func := "assayer/assayerlaw18.MeasureLists", spec := "measureLists", recurses := true, apart := false }
def MeasureListsSaid : Prop := measureListsRow.holds Try.pinned (OpenSpec.ofChange measureListsSpec)

/-- ITS FALSE NEIGHBOUR: 'it returns false'. Refute it at one input. -/
def measureListsWrong : ChangeSpec := { name := "measureLists", fn := fun _ => fun
  | [d1, d2] => { results := [.lit (.bool false)], args := [d1, d2] }
  | _ => none }
def MeasureListsWrongFalsely : Prop := measureListsRow.holds Try.pinned (OpenSpec.ofChange measureListsWrong)

/- THE SECOND FORM. 'bulk': how many values and letters a reading holds, each counted each time it is reached (what is shared counts as often as it is met; a slice's spare places count too). A statement '..UptoSaid' is the law's where the arguments, and the package variables that the reading takes, are together of bulk at most 1048576: NARROWER than '..Said'. Prove '..Said' where nothing that the law and all that it calls make is longer than what came in: it says more and counts as full. Else prove '..UptoSaid'. A law counts once. -/
mutual
def uptoBulk {H : Type} : DataW H → Nat
  | .lit (.string bytes) => bytes.length + 1
  | .lit _ => 1
  | .nil => 1
  | .ptr d => uptoBulk d + 1
  | .slice elems spare => uptoBulkAll elems + uptoBulkAll spare + 1
  | .agg parts => uptoBulkAll parts + 1
  | .iface _ d => uptoBulk d + 1
  | .map entries => uptoBulkEntries entries + 1
  | .held _ => 1
def uptoBulkAll {H : Type} : List (DataW H) → Nat
  | [] => 0
  | d :: r => uptoBulk d + uptoBulkAll r
def uptoBulkEntries {H : Type} : List (Lit × DataW H) → Nat
  | [] => 0
  | x :: r => uptoBulkEntry x + uptoBulkEntries r
def uptoBulkEntry {H : Type} : Lit × DataW H → Nat
  | (.string bytes, d) => bytes.length + uptoBulk d + 1
  | (_, d) => uptoBulk d + 1
 end
def uptoSmall : (H : Type) → List (DataW H) → Bool := fun _ ds => decide (uptoBulkAll ds ≤ 1048576)
def OpenSpec.upto (s : _root_.Go.ChangeSpec) : _root_.Go.OpenSpec := { _root_.Go.OpenSpec.ofChange s with cond := some uptoSmall }

/-- 'assayerlaw18.MeasureAll', WHERE WHAT IT READS IS OF BULK AT MOST 1048576: true; the input reads as it did. -/
def measureAllUptoRow : OpenClaim := { program := "ytldgjbhejgklaaa", sum := "d9a5cb397803acbf5f197941015fd990d9bc569810d2b389b53964d92c948aaa", func := "assayer/assayerlaw18.MeasureAll", spec := "measureAll", recurses := true, loops := true, apart := false, narrowed := true }
def MeasureAllUptoSaid : Prop := measureAllUptoRow.holds Try.pinned (OpenSpec.upto measureAllSpec)

/-- 'assayerlaw18.MeasureWithin', WHERE WHAT IT READS IS OF BULK AT MOST 1048576: true; the input reads as it did. -/
def measureWithinUptoRow : OpenClaim := { program := "ytldgjbhejgklaaa", sum := "d9a5cb397803acbf5f197941015fd990d9bc569810d2b389b53964d92c948aaa", func := "assayer/assayerlaw18.MeasureWithin", spec := "measureWithin", recurses := true, loops := true, apart := false, narrowed := true }
def MeasureWithinUptoSaid : Prop := measureWithinUptoRow.holds Try.pinned (OpenSpec.upto measureWithinSpec)

/-- 'assayerlaw18.MeasureLists', WHERE WHAT IT READS IS OF BULK AT MOST 1048576: true; the input reads as it did. -/
def measureListsUptoRow : OpenClaim := { program := "ytldgjbhejgklaaa", sum := "d9a5cb397803acbf5f197941015fd990d9bc569810d2b389b53964d92c948aaa", func := "assayer/assayerlaw18.MeasureLists", spec := "measureLists", recurses := true, apart := false, narrowed := true }
def MeasureListsUptoSaid : Prop := measureListsUptoRow.holds Try.pinned (OpenSpec.upto measureListsSpec)

end Rows
end Go.Proofs.Ytldgjbhejgklaaa
