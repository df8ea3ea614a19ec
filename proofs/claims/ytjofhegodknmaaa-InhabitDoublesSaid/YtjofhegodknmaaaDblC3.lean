/- InhabitDoubles: heads of names, 3. To: InhabitDoubles: heads of names, 3. -/
import Derived.Test.YtjofhegodknmaaaDblB
set_option linter.unusedSimpArgs false
set_option linter.unusedVariables false
/-! InhabitDoubles: heads of names, 3. -/
namespace Go.Proofs.Ytjofhegodknmaaa.Dbl
open Go Go.RowKit
open W hiding R L
open V (D)
theorem h3 : ((heads.drop 33).take 11).all (fun p => V.tells Try.prog an 300 74 [p.1] p.2) = true := by kernel_rfl
end Go.Proofs.Ytjofhegodknmaaa.Dbl
