/- OrderStays: the trees are the program's. To: OrderStays: the trees are the program's. -/
import Derived.Test.YtjofhegodknmaaaChecked
import Derived.Test.YtjofhegodknmaaaStA
set_option linter.unusedSimpArgs false
set_option linter.unusedVariables false
/-! OrderStays: the trees are the program's. -/
namespace Go.Proofs.Ytjofhegodknmaaa.St
open Go Go.RowKit
open W hiding R L
open V (D)
def C : Cfg := ⟨fun f => sigs.lookup f, fun t => cellL.lookup t, valL, cloneL⟩
def an : V.An := { io := fun _ => false, ownRes := fun _ => false, spec := fun _ _ => none }
theorem trees_all : trees.all (fun p => isTr Try.prog C p.1 p.2.1 p.2.2) = true := by kernel_rfl
theorem trees_is : ∀ p ∈ trees, isTr Try.prog C p.1 p.2.1 p.2.2 = true := List.all_eq_true.1 trees_all
end Go.Proofs.Ytjofhegodknmaaa.St
