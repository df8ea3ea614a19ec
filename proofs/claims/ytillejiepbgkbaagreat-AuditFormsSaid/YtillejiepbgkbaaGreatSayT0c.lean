/- Closed calls, level 0. -/
import Derived.Test.YtillejiepbgkbaaGreatSayData
set_option linter.unusedVariables false
namespace Go.Proofs.YtillejiepbgkbaaGreat.Say
open Go Go.RowKit
open V (D)
set_option maxRecDepth 1000000 in
theorem e6 : V.ftells Tryz.prog an0 tab 400 142 a6 r6 = true := by kernel_rfl
theorem h6 : V.Holds Tryz.prog 142 a6 r6 := V.holds_of_ftells good0 regs follows (V.Shy.none rfl) tabOk e6
set_option maxRecDepth 1000000 in
theorem e18 : V.ftells Tryz.prog an0 tab 400 47 a18 r18 = true := by kernel_rfl
theorem h18 : V.Holds Tryz.prog 47 a18 r18 := V.holds_of_ftells good0 regs follows (V.Shy.none rfl) tabOk e18
set_option maxRecDepth 1000000 in
theorem e24 : V.ftells Tryz.prog an0 tab 400 47 a24 r24 = true := by kernel_rfl
theorem h24 : V.Holds Tryz.prog 47 a24 r24 := V.holds_of_ftells good0 regs follows (V.Shy.none rfl) tabOk e24
set_option maxRecDepth 1000000 in
theorem e32 : V.ftells Tryz.prog an0 tab 400 47 a32 r32 = true := by kernel_rfl
theorem h32 : V.Holds Tryz.prog 47 a32 r32 := V.holds_of_ftells good0 regs follows (V.Shy.none rfl) tabOk e32
set_option maxRecDepth 1000000 in
theorem e40 : V.ftells Tryz.prog an0 tab 400 23 a40 r40 = true := by kernel_rfl
theorem h40 : V.Holds Tryz.prog 23 a40 r40 := V.holds_of_ftells good0 regs follows (V.Shy.none rfl) tabOk e40
set_option maxRecDepth 1000000 in
theorem e52 : V.ftells Tryz.prog an0 tab 400 174 a52 r52 = true := by kernel_rfl
theorem h52 : V.Holds Tryz.prog 174 a52 r52 := V.holds_of_ftells good0 regs follows (V.Shy.none rfl) tabOk e52
set_option maxRecDepth 1000000 in
theorem e60 : V.ftells Tryz.prog an0 tab 400 79 a60 r60 = true := by kernel_rfl
theorem h60 : V.Holds Tryz.prog 79 a60 r60 := V.holds_of_ftells good0 regs follows (V.Shy.none rfl) tabOk e60
set_option maxRecDepth 1000000 in
theorem e80 : V.ftells Tryz.prog an0 tab 400 180 a80 r80 = true := by kernel_rfl
theorem h80 : V.Holds Tryz.prog 180 a80 r80 := V.holds_of_ftells good0 regs follows (V.Shy.none rfl) tabOk e80
set_option maxRecDepth 1000000 in
theorem e108 : V.ftells Tryz.prog an0 tab 400 71 a108 r108 = true := by kernel_rfl
theorem h108 : V.Holds Tryz.prog 71 a108 r108 := V.holds_of_ftells good0 regs follows (V.Shy.none rfl) tabOk e108
set_option maxRecDepth 1000000 in
theorem e126 : V.ftells Tryz.prog an0 tab 400 79 a126 r126 = true := by kernel_rfl
theorem h126 : V.Holds Tryz.prog 79 a126 r126 := V.holds_of_ftells good0 regs follows (V.Shy.none rfl) tabOk e126
set_option maxRecDepth 1000000 in
theorem e127 : V.ftells Tryz.prog an0 tab 400 47 a127 r127 = true := by kernel_rfl
theorem h127 : V.Holds Tryz.prog 47 a127 r127 := V.holds_of_ftells good0 regs follows (V.Shy.none rfl) tabOk e127
set_option maxRecDepth 1000000 in
theorem e134 : V.ftells Tryz.prog an0 tab 400 88 a134 r134 = true := by kernel_rfl
theorem h134 : V.Holds Tryz.prog 88 a134 r134 := V.holds_of_ftells good0 regs follows (V.Shy.none rfl) tabOk e134
set_option maxRecDepth 1000000 in
theorem e156 : V.ftells Tryz.prog an0 tab 400 14 a156 r156 = true := by kernel_rfl
theorem h156 : V.Holds Tryz.prog 14 a156 r156 := V.holds_of_ftells good0 regs follows (V.Shy.none rfl) tabOk e156
set_option maxRecDepth 1000000 in
theorem e162 : V.ftells Tryz.prog an0 tab 400 79 a162 r162 = true := by kernel_rfl
theorem h162 : V.Holds Tryz.prog 79 a162 r162 := V.holds_of_ftells good0 regs follows (V.Shy.none rfl) tabOk e162
set_option maxRecDepth 1000000 in
theorem e165 : V.ftells Tryz.prog an0 tab 400 23 a165 r165 = true := by kernel_rfl
theorem h165 : V.Holds Tryz.prog 23 a165 r165 := V.holds_of_ftells good0 regs follows (V.Shy.none rfl) tabOk e165
set_option maxRecDepth 1000000 in
theorem e166 : V.ftells Tryz.prog an0 tab 400 87 a166 r166 = true := by kernel_rfl
theorem h166 : V.Holds Tryz.prog 87 a166 r166 := V.holds_of_ftells good0 regs follows (V.Shy.none rfl) tabOk e166
set_option maxRecDepth 1000000 in
theorem e169 : V.ftells Tryz.prog an0 tab 400 174 a169 r169 = true := by kernel_rfl
theorem h169 : V.Holds Tryz.prog 174 a169 r169 := V.holds_of_ftells good0 regs follows (V.Shy.none rfl) tabOk e169
set_option maxRecDepth 1000000 in
theorem e175 : V.ftells Tryz.prog an0 tab 400 31 a175 r175 = true := by kernel_rfl
theorem h175 : V.Holds Tryz.prog 31 a175 r175 := V.holds_of_ftells good0 regs follows (V.Shy.none rfl) tabOk e175
set_option maxRecDepth 1000000 in
theorem e198 : V.ftells Tryz.prog an0 tab 400 135 a198 r198 = true := by kernel_rfl
theorem h198 : V.Holds Tryz.prog 135 a198 r198 := V.holds_of_ftells good0 regs follows (V.Shy.none rfl) tabOk e198
set_option maxRecDepth 1000000 in
theorem e219 : V.ftells Tryz.prog an0 tab 400 12 a219 r219 = true := by kernel_rfl
theorem h219 : V.Holds Tryz.prog 12 a219 r219 := V.holds_of_ftells good0 regs follows (V.Shy.none rfl) tabOk e219
set_option maxRecDepth 1000000 in
theorem e260 : V.ftells Tryz.prog an0 tab 400 87 a260 r260 = true := by kernel_rfl
theorem h260 : V.Holds Tryz.prog 87 a260 r260 := V.holds_of_ftells good0 regs follows (V.Shy.none rfl) tabOk e260
set_option maxRecDepth 1000000 in
theorem e261 : V.ftells Tryz.prog an0 tab 400 207 a261 r261 = true := by kernel_rfl
theorem h261 : V.Holds Tryz.prog 207 a261 r261 := V.holds_of_ftells good0 regs follows (V.Shy.none rfl) tabOk e261
set_option maxRecDepth 1000000 in
theorem e295 : V.ftells Tryz.prog an0 tab 400 23 a295 r295 = true := by kernel_rfl
theorem h295 : V.Holds Tryz.prog 23 a295 r295 := V.holds_of_ftells good0 regs follows (V.Shy.none rfl) tabOk e295
set_option maxRecDepth 1000000 in
theorem e298 : V.ftells Tryz.prog an0 tab 400 174 a298 r298 = true := by kernel_rfl
theorem h298 : V.Holds Tryz.prog 174 a298 r298 := V.holds_of_ftells good0 regs follows (V.Shy.none rfl) tabOk e298
set_option maxRecDepth 1000000 in
theorem e321 : V.ftells Tryz.prog an0 tab 400 71 a321 r321 = true := by kernel_rfl
theorem h321 : V.Holds Tryz.prog 71 a321 r321 := V.holds_of_ftells good0 regs follows (V.Shy.none rfl) tabOk e321
set_option maxRecDepth 1000000 in
theorem e324 : V.ftells Tryz.prog an0 tab 400 189 a324 r324 = true := by kernel_rfl
theorem h324 : V.Holds Tryz.prog 189 a324 r324 := V.holds_of_ftells good0 regs follows (V.Shy.none rfl) tabOk e324
set_option maxRecDepth 1000000 in
theorem e350 : V.ftells Tryz.prog an0 tab 400 14 a350 r350 = true := by kernel_rfl
theorem h350 : V.Holds Tryz.prog 14 a350 r350 := V.holds_of_ftells good0 regs follows (V.Shy.none rfl) tabOk e350
set_option maxRecDepth 1000000 in
theorem e352 : V.ftells Tryz.prog an0 tab 400 17 a352 r352 = true := by kernel_rfl
theorem h352 : V.Holds Tryz.prog 17 a352 r352 := V.holds_of_ftells good0 regs follows (V.Shy.none rfl) tabOk e352
set_option maxRecDepth 1000000 in
theorem e373 : V.ftells Tryz.prog an0 tab 400 12 a373 r373 = true := by kernel_rfl
theorem h373 : V.Holds Tryz.prog 12 a373 r373 := V.holds_of_ftells good0 regs follows (V.Shy.none rfl) tabOk e373
end Go.Proofs.YtillejiepbgkbaaGreat.Say
