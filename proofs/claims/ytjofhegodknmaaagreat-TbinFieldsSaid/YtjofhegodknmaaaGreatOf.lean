/- TbinFields: the trees are the program's, 1. -/
import Derived.Test.YtjofhegodknmaaaGreatOe
set_option linter.unusedSimpArgs false
set_option linter.unusedVariables false
namespace Go.Proofs.YtjofhegodknmaaaGreat.Tbf
open Go Go.RowKit
open W hiding R L
open V (D)
theorem trees_3 : ((trees.drop 24).take 8).all (fun p => isTr Tryz.prog C p.1 p.2.1 p.2.2) = true := by kernel_rfl
theorem trees_4 : ((trees.drop 32).take 8).all (fun p => isTr Tryz.prog C p.1 p.2.1 p.2.2) = true := by kernel_rfl
end Go.Proofs.YtjofhegodknmaaaGreat.Tbf
