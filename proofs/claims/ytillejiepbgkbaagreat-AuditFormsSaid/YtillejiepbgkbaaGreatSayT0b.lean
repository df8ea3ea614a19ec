/- Closed calls, level 0. -/
import Derived.Test.YtillejiepbgkbaaGreatSayData
set_option linter.unusedVariables false
namespace Go.Proofs.YtillejiepbgkbaaGreat.Say
open Go Go.RowKit
open V (D)
set_option maxRecDepth 1000000 in
theorem e8 : V.ftells Tryz.prog an0 tab 400 189 a8 r8 = true := by kernel_rfl
theorem h8 : V.Holds Tryz.prog 189 a8 r8 := V.holds_of_ftells good0 regs follows (V.Shy.none rfl) tabOk e8
set_option maxRecDepth 1000000 in
theorem e26 : V.ftells Tryz.prog an0 tab 400 47 a26 r26 = true := by kernel_rfl
theorem h26 : V.Holds Tryz.prog 47 a26 r26 := V.holds_of_ftells good0 regs follows (V.Shy.none rfl) tabOk e26
set_option maxRecDepth 1000000 in
theorem e34 : V.ftells Tryz.prog an0 tab 400 47 a34 r34 = true := by kernel_rfl
theorem h34 : V.Holds Tryz.prog 47 a34 r34 := V.holds_of_ftells good0 regs follows (V.Shy.none rfl) tabOk e34
set_option maxRecDepth 1000000 in
theorem e43 : V.ftells Tryz.prog an0 tab 400 207 a43 r43 = true := by kernel_rfl
theorem h43 : V.Holds Tryz.prog 207 a43 r43 := V.holds_of_ftells good0 regs follows (V.Shy.none rfl) tabOk e43
set_option maxRecDepth 1000000 in
theorem e56 : V.ftells Tryz.prog an0 tab 400 165 a56 r56 = true := by kernel_rfl
theorem h56 : V.Holds Tryz.prog 165 a56 r56 := V.holds_of_ftells good0 regs follows (V.Shy.none rfl) tabOk e56
set_option maxRecDepth 1000000 in
theorem e65 : V.ftells Tryz.prog an0 tab 400 23 a65 r65 = true := by kernel_rfl
theorem h65 : V.Holds Tryz.prog 23 a65 r65 := V.holds_of_ftells good0 regs follows (V.Shy.none rfl) tabOk e65
set_option maxRecDepth 1000000 in
theorem e75 : V.ftells Tryz.prog an0 tab 400 31 a75 r75 = true := by kernel_rfl
theorem h75 : V.Holds Tryz.prog 31 a75 r75 := V.holds_of_ftells good0 regs follows (V.Shy.none rfl) tabOk e75
set_option maxRecDepth 1000000 in
theorem e96 : V.ftells Tryz.prog an0 tab 400 12 a96 r96 = true := by kernel_rfl
theorem h96 : V.Holds Tryz.prog 12 a96 r96 := V.holds_of_ftells good0 regs follows (V.Shy.none rfl) tabOk e96
set_option maxRecDepth 1000000 in
theorem e107 : V.ftells Tryz.prog an0 tab 400 19 a107 r107 = true := by kernel_rfl
theorem h107 : V.Holds Tryz.prog 19 a107 r107 := V.holds_of_ftells good0 regs follows (V.Shy.none rfl) tabOk e107
set_option maxRecDepth 1000000 in
theorem e118 : V.ftells Tryz.prog an0 tab 400 174 a118 r118 = true := by kernel_rfl
theorem h118 : V.Holds Tryz.prog 174 a118 r118 := V.holds_of_ftells good0 regs follows (V.Shy.none rfl) tabOk e118
set_option maxRecDepth 1000000 in
theorem e132 : V.ftells Tryz.prog an0 tab 400 87 a132 r132 = true := by kernel_rfl
theorem h132 : V.Holds Tryz.prog 87 a132 r132 := V.holds_of_ftells good0 regs follows (V.Shy.none rfl) tabOk e132
set_option maxRecDepth 1000000 in
theorem e186 : V.ftells Tryz.prog an0 tab 400 47 a186 r186 = true := by kernel_rfl
theorem h186 : V.Holds Tryz.prog 47 a186 r186 := V.holds_of_ftells good0 regs follows (V.Shy.none rfl) tabOk e186
set_option maxRecDepth 1000000 in
theorem e192 : V.ftells Tryz.prog an0 tab 400 23 a192 r192 = true := by kernel_rfl
theorem h192 : V.Holds Tryz.prog 23 a192 r192 := V.holds_of_ftells good0 regs follows (V.Shy.none rfl) tabOk e192
set_option maxRecDepth 1000000 in
theorem e193 : V.ftells Tryz.prog an0 tab 400 87 a193 r193 = true := by kernel_rfl
theorem h193 : V.Holds Tryz.prog 87 a193 r193 := V.holds_of_ftells good0 regs follows (V.Shy.none rfl) tabOk e193
set_option maxRecDepth 1000000 in
theorem e208 : V.ftells Tryz.prog an0 tab 400 31 a208 r208 = true := by kernel_rfl
theorem h208 : V.Holds Tryz.prog 31 a208 r208 := V.holds_of_ftells good0 regs follows (V.Shy.none rfl) tabOk e208
set_option maxRecDepth 1000000 in
theorem e217 : V.ftells Tryz.prog an0 tab 400 71 a217 r217 = true := by kernel_rfl
theorem h217 : V.Holds Tryz.prog 71 a217 r217 := V.holds_of_ftells good0 regs follows (V.Shy.none rfl) tabOk e217
set_option maxRecDepth 1000000 in
theorem e223 : V.ftells Tryz.prog an0 tab 400 14 a223 r223 = true := by kernel_rfl
theorem h223 : V.Holds Tryz.prog 14 a223 r223 := V.holds_of_ftells good0 regs follows (V.Shy.none rfl) tabOk e223
set_option maxRecDepth 1000000 in
theorem e230 : V.ftells Tryz.prog an0 tab 400 79 a230 r230 = true := by kernel_rfl
theorem h230 : V.Holds Tryz.prog 79 a230 r230 := V.holds_of_ftells good0 regs follows (V.Shy.none rfl) tabOk e230
set_option maxRecDepth 1000000 in
theorem e236 : V.ftells Tryz.prog an0 tab 400 88 a236 r236 = true := by kernel_rfl
theorem h236 : V.Holds Tryz.prog 88 a236 r236 := V.holds_of_ftells good0 regs follows (V.Shy.none rfl) tabOk e236
set_option maxRecDepth 1000000 in
theorem e237 : V.ftells Tryz.prog an0 tab 400 174 a237 r237 = true := by kernel_rfl
theorem h237 : V.Holds Tryz.prog 174 a237 r237 := V.holds_of_ftells good0 regs follows (V.Shy.none rfl) tabOk e237
set_option maxRecDepth 1000000 in
theorem e280 : V.ftells Tryz.prog an0 tab 400 12 a280 r280 = true := by kernel_rfl
theorem h280 : V.Holds Tryz.prog 12 a280 r280 := V.holds_of_ftells good0 regs follows (V.Shy.none rfl) tabOk e280
set_option maxRecDepth 1000000 in
theorem e290 : V.ftells Tryz.prog an0 tab 400 79 a290 r290 = true := by kernel_rfl
theorem h290 : V.Holds Tryz.prog 79 a290 r290 := V.holds_of_ftells good0 regs follows (V.Shy.none rfl) tabOk e290
set_option maxRecDepth 1000000 in
theorem e331 : V.ftells Tryz.prog an0 tab 400 79 a331 r331 = true := by kernel_rfl
theorem h331 : V.Holds Tryz.prog 79 a331 r331 := V.holds_of_ftells good0 regs follows (V.Shy.none rfl) tabOk e331
set_option maxRecDepth 1000000 in
theorem e334 : V.ftells Tryz.prog an0 tab 400 23 a334 r334 = true := by kernel_rfl
theorem h334 : V.Holds Tryz.prog 23 a334 r334 := V.holds_of_ftells good0 regs follows (V.Shy.none rfl) tabOk e334
set_option maxRecDepth 1000000 in
theorem e377 : V.ftells Tryz.prog an0 tab 400 14 a377 r377 = true := by kernel_rfl
theorem h377 : V.Holds Tryz.prog 14 a377 r377 := V.holds_of_ftells good0 regs follows (V.Shy.none rfl) tabOk e377
set_option maxRecDepth 1000000 in
theorem e383 : V.ftells Tryz.prog an0 tab 400 23 a383 r383 = true := by kernel_rfl
theorem h383 : V.Holds Tryz.prog 23 a383 r383 := V.holds_of_ftells good0 regs follows (V.Shy.none rfl) tabOk e383
set_option maxRecDepth 1000000 in
theorem e395 : V.ftells Tryz.prog an0 tab 400 12 a395 r395 = true := by kernel_rfl
theorem h395 : V.Holds Tryz.prog 12 a395 r395 := V.holds_of_ftells good0 regs follows (V.Shy.none rfl) tabOk e395
end Go.Proofs.YtillejiepbgkbaaGreat.Say
