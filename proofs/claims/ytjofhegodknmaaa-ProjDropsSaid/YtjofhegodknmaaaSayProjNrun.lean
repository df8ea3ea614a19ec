/- Structs whose numbers rise are normal. Mine. -/
import Derived.Test.YtjofhegodknmaaaSayField
import Derived.Test.YtjofhegodknmaaaV29
set_option linter.unusedVariables false
set_option linter.unusedSimpArgs false
namespace Go.Proofs.Ytjofhegodknmaaa.Say
open Go Go.RowKit
open V (D)

/-! Normal of a struct whose numbers rise. -/
def vn (n : D) : D := .agg [.int .i64 3, n, mt, .nil, .nil]
def stD (n : D) (ids : List D) : D := .agg [.int .i64 12, .int .i64 0, mt, rowD (ids.map fun _ => vn n), rowD ids]
def nms (w : Nat) : List D := (List.range w).map D.sym
def fN (w : Nat) : List V.Fact := ((List.range w).map fun k => .cmp .neq (.sym k) (.sym k) false) ++ (List.range (w - 1)).flatMap fun k => [.cmp .lss (.sym (k + 1)) (.sym k) false, .cmp .gtr (.sym (k + 1)) (.sym k) true, .cmp .eql (.sym k) (.sym (k + 1)) false]
def aN (w : Nat) : V.An := { anE with io := fun f => [16,17,24,25,68,69,98,99,101,120,121,122,123,130,131,132,133,134,137,138,139,140,141].contains f, orc := V.orcOf (fN w) }
set_option maxRecDepth 1000000 in
theorem runN1 : [0, 1, 2, 3, 4, 5, 6, 7].all (fun w => V.tells Try.prog (aN w) 400 13 [stD (.sym 40) (nms w)] [stD (.sym 40) (nms w), .int .i64 0]) = true := by kernel_rfl
set_option maxRecDepth 1000000 in
theorem runN2 : [8, 9, 10].all (fun w => V.tells Try.prog (aN w) 400 13 [stD (.sym 40) (nms w)] [stD (.sym 40) (nms w), .int .i64 0]) = true := by kernel_rfl
set_option maxRecDepth 1000000 in
theorem runN3 : [11, 12].all (fun w => V.tells Try.prog (aN w) 400 13 [stD (.sym 40) (nms w)] [stD (.sym 40) (nms w), .int .i64 0]) = true := by kernel_rfl
end Go.Proofs.Ytjofhegodknmaaa.Say
