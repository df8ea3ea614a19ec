/- TbinFields: what begins, and a head. -/
import Derived.Test.YtjofhegodknmaaaGreatChecked
import Derived.Test.YtjofhegodknmaaaGreatGc
set_option linter.unusedSimpArgs false
set_option linter.unusedVariables false
namespace Go.Proofs.YtjofhegodknmaaaGreat.Tbf
open Go Go.RowKit
open V (D)
def an : V.An := { io := fun f => [23,54,62,65,159,160,175,176,178,182,183,184,185,186,187,188,189,190,191,192,193,194,195].contains f, ownRes := fun f => [92,134,141,142].contains f, spec := fun _ _ => none }
theorem begun_tells : V.tells Tryz.prog an 3000 6 [] [.bool true] = true := by kernel_rfl
theorem head_tells : V.tells Tryz.prog an 300 68 [V.txt [105, 56]] [.int .i64 3, V.txt [], V.txt [], V.txt [], .int .i64 0] = true := by kernel_rfl
end Go.Proofs.YtjofhegodknmaaaGreat.Tbf
