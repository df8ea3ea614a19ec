/- V, 27: a call of data whose result stays the caller's, by hand. -/
import Derived.Test.YtjofhegodknmaaaV26
set_option linter.unusedSimpArgs false
set_option linter.unusedVariables false
namespace Go.Proofs.Ytjofhegodknmaaa.V
open Go Go.RowKit
def callAt (o : Oper) : Option (Operand × List Operand) :=
  match o.op with
  | .call c => match c.callee with
    | .value f => some (f, c.args.toList)
    | _ => none
  | _ => none
section
variable {P : Program} {an : An}
end
end Go.Proofs.Ytjofhegodknmaaa.V
