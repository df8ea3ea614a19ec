/- A map's pairs, however they are handed in, are one map: the runs behind the loop. Mine. -/
import Derived.Test.YtjofhegodknmaaaSayOrderEnd
set_option linter.unusedVariables false
set_option linter.unusedSimpArgs false
namespace Go.Proofs.Ytjofhegodknmaaa.Say
open Go Go.RowKit
open V (D)

set_option maxRecDepth 1000000 in
theorem runR1 (bs : List Bool) : [1, 2, 3, 4, 5].all (fun q => (List.range q).all fun k => trueAt (V.exec Try.prog (aR k q) 400 oR (EN bs q))) = true := by kernel_rfl
set_option maxRecDepth 1000000 in
theorem runR2 (bs : List Bool) : [6, 7].all (fun q => (List.range q).all fun k => trueAt (V.exec Try.prog (aR k q) 400 oR (EN bs q))) = true := by kernel_rfl
set_option maxRecDepth 1000000 in
theorem runR3 (bs : List Bool) : [8].all (fun q => (List.range q).all fun k => trueAt (V.exec Try.prog (aR k q) 400 oR (EN bs q))) = true := by kernel_rfl
set_option maxRecDepth 1000000 in
theorem runR4 (bs : List Bool) : [9].all (fun q => (List.range q).all fun k => trueAt (V.exec Try.prog (aR k q) 400 oR (EN bs q))) = true := by kernel_rfl
set_option maxRecDepth 1000000 in
theorem runR5 (bs : List Bool) : [10].all (fun q => (List.range q).all fun k => trueAt (V.exec Try.prog (aR k q) 400 oR (EN bs q))) = true := by kernel_rfl
end Go.Proofs.Ytjofhegodknmaaa.Say
