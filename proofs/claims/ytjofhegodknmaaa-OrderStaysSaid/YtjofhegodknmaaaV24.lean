/- V, 24: calls, whatever they are handed, out of runs of bodies. -/
import Derived.Test.YtjofhegodknmaaaV23
import Derived.Test.YtjofhegodknmaaaVE
set_option linter.unusedSimpArgs false
set_option linter.unusedVariables false
namespace Go.Proofs.Ytjofhegodknmaaa.V
open Go Go.RowKit
end Go.Proofs.Ytjofhegodknmaaa.V
