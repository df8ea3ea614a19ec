/- TbinFields: the trees are the program's, 0. -/
import Derived.Test.YtjofhegodknmaaaGreatChecked
import Derived.Test.YtjofhegodknmaaaGreatOa
set_option linter.unusedSimpArgs false
set_option linter.unusedVariables false
namespace Go.Proofs.YtjofhegodknmaaaGreat.Tbf
open Go Go.RowKit
open W hiding R L
open V (D)
def C : Cfg := ⟨fun f => sigs.lookup f, fun t => cellL.lookup t, valL, [], true⟩
theorem trees_0 : ((trees.drop 0).take 8).all (fun p => isTr Tryz.prog C p.1 p.2.1 p.2.2) = true := by kernel_rfl
theorem trees_1 : ((trees.drop 8).take 8).all (fun p => isTr Tryz.prog C p.1 p.2.1 p.2.2) = true := by kernel_rfl
theorem trees_2 : ((trees.drop 16).take 8).all (fun p => isTr Tryz.prog C p.1 p.2.1 p.2.2) = true := by kernel_rfl
end Go.Proofs.YtjofhegodknmaaaGreat.Tbf
