/- Closed calls, level 0. -/
import Derived.Test.YtillejiepbgkbaaGreatSayData
set_option linter.unusedVariables false
namespace Go.Proofs.YtillejiepbgkbaaGreat.Say
open Go Go.RowKit
open V (D)
set_option maxRecDepth 1000000 in
theorem e17 : V.ftells Tryz.prog an0 tab 400 79 a17 r17 = true := by kernel_rfl
theorem h17 : V.Holds Tryz.prog 79 a17 r17 := V.holds_of_ftells good0 regs follows (V.Shy.none rfl) tabOk e17
set_option maxRecDepth 1000000 in
theorem e20 : V.ftells Tryz.prog an0 tab 400 47 a20 r20 = true := by kernel_rfl
theorem h20 : V.Holds Tryz.prog 47 a20 r20 := V.holds_of_ftells good0 regs follows (V.Shy.none rfl) tabOk e20
set_option maxRecDepth 1000000 in
theorem e28 : V.ftells Tryz.prog an0 tab 400 47 a28 r28 = true := by kernel_rfl
theorem h28 : V.Holds Tryz.prog 47 a28 r28 := V.holds_of_ftells good0 regs follows (V.Shy.none rfl) tabOk e28
set_option maxRecDepth 1000000 in
theorem e36 : V.ftells Tryz.prog an0 tab 400 47 a36 r36 = true := by kernel_rfl
theorem h36 : V.Holds Tryz.prog 47 a36 r36 := V.holds_of_ftells good0 regs follows (V.Shy.none rfl) tabOk e36
set_option maxRecDepth 1000000 in
theorem e48 : V.ftells Tryz.prog an0 tab 400 87 a48 r48 = true := by kernel_rfl
theorem h48 : V.Holds Tryz.prog 87 a48 r48 := V.holds_of_ftells good0 regs follows (V.Shy.none rfl) tabOk e48
set_option maxRecDepth 1000000 in
theorem e49 : V.ftells Tryz.prog an0 tab 400 88 a49 r49 = true := by kernel_rfl
theorem h49 : V.Holds Tryz.prog 88 a49 r49 := V.holds_of_ftells good0 regs follows (V.Shy.none rfl) tabOk e49
set_option maxRecDepth 1000000 in
theorem e87 : V.ftells Tryz.prog an0 tab 400 109 a87 r87 = true := by kernel_rfl
theorem h87 : V.Holds Tryz.prog 109 a87 r87 := V.holds_of_ftells good0 regs follows (V.Shy.none rfl) tabOk e87
set_option maxRecDepth 1000000 in
theorem e97 : V.ftells Tryz.prog an0 tab 400 142 a97 r97 = true := by kernel_rfl
theorem h97 : V.Holds Tryz.prog 142 a97 r97 := V.holds_of_ftells good0 regs follows (V.Shy.none rfl) tabOk e97
set_option maxRecDepth 1000000 in
theorem e105 : V.ftells Tryz.prog an0 tab 400 14 a105 r105 = true := by kernel_rfl
theorem h105 : V.Holds Tryz.prog 14 a105 r105 := V.holds_of_ftells good0 regs follows (V.Shy.none rfl) tabOk e105
set_option maxRecDepth 1000000 in
theorem e116 : V.ftells Tryz.prog an0 tab 400 23 a116 r116 = true := by kernel_rfl
theorem h116 : V.Holds Tryz.prog 23 a116 r116 := V.holds_of_ftells good0 regs follows (V.Shy.none rfl) tabOk e116
set_option maxRecDepth 1000000 in
theorem e135 : V.ftells Tryz.prog an0 tab 400 174 a135 r135 = true := by kernel_rfl
theorem h135 : V.Holds Tryz.prog 174 a135 r135 := V.holds_of_ftells good0 regs follows (V.Shy.none rfl) tabOk e135
set_option maxRecDepth 1000000 in
theorem e144 : V.ftells Tryz.prog an0 tab 400 180 a144 r144 = true := by kernel_rfl
theorem h144 : V.Holds Tryz.prog 180 a144 r144 := V.holds_of_ftells good0 regs follows (V.Shy.none rfl) tabOk e144
set_option maxRecDepth 1000000 in
theorem e152 : V.ftells Tryz.prog an0 tab 400 12 a152 r152 = true := by kernel_rfl
theorem h152 : V.Holds Tryz.prog 12 a152 r152 := V.holds_of_ftells good0 regs follows (V.Shy.none rfl) tabOk e152
set_option maxRecDepth 1000000 in
theorem e188 : V.ftells Tryz.prog an0 tab 400 47 a188 r188 = true := by kernel_rfl
theorem h188 : V.Holds Tryz.prog 47 a188 r188 := V.holds_of_ftells good0 regs follows (V.Shy.none rfl) tabOk e188
set_option maxRecDepth 1000000 in
theorem e195 : V.ftells Tryz.prog an0 tab 400 207 a195 r195 = true := by kernel_rfl
theorem h195 : V.Holds Tryz.prog 207 a195 r195 := V.holds_of_ftells good0 regs follows (V.Shy.none rfl) tabOk e195
set_option maxRecDepth 1000000 in
theorem e200 : V.ftells Tryz.prog an0 tab 400 87 a200 r200 = true := by kernel_rfl
theorem h200 : V.Holds Tryz.prog 87 a200 r200 := V.holds_of_ftells good0 regs follows (V.Shy.none rfl) tabOk e200
set_option maxRecDepth 1000000 in
theorem e224 : V.ftells Tryz.prog an0 tab 400 17 a224 r224 = true := by kernel_rfl
theorem h224 : V.Holds Tryz.prog 17 a224 r224 := V.holds_of_ftells good0 regs follows (V.Shy.none rfl) tabOk e224
set_option maxRecDepth 1000000 in
theorem e225 : V.ftells Tryz.prog an0 tab 400 19 a225 r225 = true := by kernel_rfl
theorem h225 : V.Holds Tryz.prog 19 a225 r225 := V.holds_of_ftells good0 regs follows (V.Shy.none rfl) tabOk e225
set_option maxRecDepth 1000000 in
theorem e233 : V.ftells Tryz.prog an0 tab 400 23 a233 r233 = true := by kernel_rfl
theorem h233 : V.Holds Tryz.prog 23 a233 r233 := V.holds_of_ftells good0 regs follows (V.Shy.none rfl) tabOk e233
set_option maxRecDepth 1000000 in
theorem e243 : V.ftells Tryz.prog an0 tab 400 31 a243 r243 = true := by kernel_rfl
theorem h243 : V.Holds Tryz.prog 31 a243 r243 := V.holds_of_ftells good0 regs follows (V.Shy.none rfl) tabOk e243
set_option maxRecDepth 1000000 in
theorem e252 : V.ftells Tryz.prog an0 tab 400 71 a252 r252 = true := by kernel_rfl
theorem h252 : V.Holds Tryz.prog 71 a252 r252 := V.holds_of_ftells good0 regs follows (V.Shy.none rfl) tabOk e252
set_option maxRecDepth 1000000 in
theorem e255 : V.ftells Tryz.prog an0 tab 400 79 a255 r255 = true := by kernel_rfl
theorem h255 : V.Holds Tryz.prog 79 a255 r255 := V.holds_of_ftells good0 regs follows (V.Shy.none rfl) tabOk e255
set_option maxRecDepth 1000000 in
theorem e264 : V.ftells Tryz.prog an0 tab 400 88 a264 r264 = true := by kernel_rfl
theorem h264 : V.Holds Tryz.prog 88 a264 r264 := V.holds_of_ftells good0 regs follows (V.Shy.none rfl) tabOk e264
set_option maxRecDepth 1000000 in
theorem e265 : V.ftells Tryz.prog an0 tab 400 174 a265 r265 = true := by kernel_rfl
theorem h265 : V.Holds Tryz.prog 174 a265 r265 := V.holds_of_ftells good0 regs follows (V.Shy.none rfl) tabOk e265
set_option maxRecDepth 1000000 in
theorem e318 : V.ftells Tryz.prog an0 tab 400 14 a318 r318 = true := by kernel_rfl
theorem h318 : V.Holds Tryz.prog 14 a318 r318 := V.holds_of_ftells good0 regs follows (V.Shy.none rfl) tabOk e318
set_option maxRecDepth 1000000 in
theorem e320 : V.ftells Tryz.prog an0 tab 400 19 a320 r320 = true := by kernel_rfl
theorem h320 : V.Holds Tryz.prog 19 a320 r320 := V.holds_of_ftells good0 regs follows (V.Shy.none rfl) tabOk e320
set_option maxRecDepth 1000000 in
theorem e325 : V.ftells Tryz.prog an0 tab 400 189 a325 r325 = true := by kernel_rfl
theorem h325 : V.Holds Tryz.prog 189 a325 r325 := V.holds_of_ftells good0 regs follows (V.Shy.none rfl) tabOk e325
set_option maxRecDepth 1000000 in
theorem e346 : V.ftells Tryz.prog an0 tab 400 12 a346 r346 = true := by kernel_rfl
theorem h346 : V.Holds Tryz.prog 12 a346 r346 := V.holds_of_ftells good0 regs follows (V.Shy.none rfl) tabOk e346
set_option maxRecDepth 1000000 in
theorem e358 : V.ftells Tryz.prog an0 tab 400 79 a358 r358 = true := by kernel_rfl
theorem h358 : V.Holds Tryz.prog 79 a358 r358 := V.holds_of_ftells good0 regs follows (V.Shy.none rfl) tabOk e358
set_option maxRecDepth 1000000 in
theorem e361 : V.ftells Tryz.prog an0 tab 400 23 a361 r361 = true := by kernel_rfl
theorem h361 : V.Holds Tryz.prog 23 a361 r361 := V.holds_of_ftells good0 regs follows (V.Shy.none rfl) tabOk e361
end Go.Proofs.YtillejiepbgkbaaGreat.Say
