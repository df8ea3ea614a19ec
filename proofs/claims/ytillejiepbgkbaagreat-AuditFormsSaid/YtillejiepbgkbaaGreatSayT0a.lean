/- Closed calls, level 0. -/
import Derived.Test.YtillejiepbgkbaaGreatSayData
set_option linter.unusedVariables false
namespace Go.Proofs.YtillejiepbgkbaaGreat.Say
open Go Go.RowKit
open V (D)
set_option maxRecDepth 1000000 in
theorem e0 : V.ftells Tryz.prog an0 tab 400 142 a0 r0 = true := by kernel_rfl
theorem h0 : V.Holds Tryz.prog 142 a0 r0 := V.holds_of_ftells good0 regs follows (V.Shy.none rfl) tabOk e0
set_option maxRecDepth 1000000 in
theorem e5 : V.ftells Tryz.prog an0 tab 400 142 a5 r5 = true := by kernel_rfl
theorem h5 : V.Holds Tryz.prog 142 a5 r5 := V.holds_of_ftells good0 regs follows (V.Shy.none rfl) tabOk e5
set_option maxRecDepth 1000000 in
theorem e15 : V.ftells Tryz.prog an0 tab 400 47 a15 r15 = true := by kernel_rfl
theorem h15 : V.Holds Tryz.prog 47 a15 r15 := V.holds_of_ftells good0 regs follows (V.Shy.none rfl) tabOk e15
set_option maxRecDepth 1000000 in
theorem e22 : V.ftells Tryz.prog an0 tab 400 47 a22 r22 = true := by kernel_rfl
theorem h22 : V.Holds Tryz.prog 47 a22 r22 := V.holds_of_ftells good0 regs follows (V.Shy.none rfl) tabOk e22
set_option maxRecDepth 1000000 in
theorem e30 : V.ftells Tryz.prog an0 tab 400 47 a30 r30 = true := by kernel_rfl
theorem h30 : V.Holds Tryz.prog 47 a30 r30 := V.holds_of_ftells good0 regs follows (V.Shy.none rfl) tabOk e30
set_option maxRecDepth 1000000 in
theorem e41 : V.ftells Tryz.prog an0 tab 400 53 a41 r41 = true := by kernel_rfl
theorem h41 : V.Holds Tryz.prog 53 a41 r41 := V.holds_of_ftells good0 regs follows (V.Shy.none rfl) tabOk e41
set_option maxRecDepth 1000000 in
theorem e42 : V.ftells Tryz.prog an0 tab 400 87 a42 r42 = true := by kernel_rfl
theorem h42 : V.Holds Tryz.prog 87 a42 r42 := V.holds_of_ftells good0 regs follows (V.Shy.none rfl) tabOk e42
set_option maxRecDepth 1000000 in
theorem e46 : V.ftells Tryz.prog an0 tab 400 135 a46 r46 = true := by kernel_rfl
theorem h46 : V.Holds Tryz.prog 135 a46 r46 := V.holds_of_ftells good0 regs follows (V.Shy.none rfl) tabOk e46
set_option maxRecDepth 1000000 in
theorem e50 : V.ftells Tryz.prog an0 tab 400 87 a50 r50 = true := by kernel_rfl
theorem h50 : V.Holds Tryz.prog 87 a50 r50 := V.holds_of_ftells good0 regs follows (V.Shy.none rfl) tabOk e50
set_option maxRecDepth 1000000 in
theorem e51 : V.ftells Tryz.prog an0 tab 400 138 a51 r51 = true := by kernel_rfl
theorem h51 : V.Holds Tryz.prog 138 a51 r51 := V.holds_of_ftells good0 regs follows (V.Shy.none rfl) tabOk e51
set_option maxRecDepth 1000000 in
theorem e58 : V.ftells Tryz.prog an0 tab 400 88 a58 r58 = true := by kernel_rfl
theorem h58 : V.Holds Tryz.prog 88 a58 r58 := V.holds_of_ftells good0 regs follows (V.Shy.none rfl) tabOk e58
set_option maxRecDepth 1000000 in
theorem e61 : V.ftells Tryz.prog an0 tab 400 47 a61 r61 = true := by kernel_rfl
theorem h61 : V.Holds Tryz.prog 47 a61 r61 := V.holds_of_ftells good0 regs follows (V.Shy.none rfl) tabOk e61
set_option maxRecDepth 1000000 in
theorem e66 : V.ftells Tryz.prog an0 tab 400 53 a66 r66 = true := by kernel_rfl
theorem h66 : V.Holds Tryz.prog 53 a66 r66 := V.holds_of_ftells good0 regs follows (V.Shy.none rfl) tabOk e66
set_option maxRecDepth 1000000 in
theorem e68 : V.ftells Tryz.prog an0 tab 400 174 a68 r68 = true := by kernel_rfl
theorem h68 : V.Holds Tryz.prog 174 a68 r68 := V.holds_of_ftells good0 regs follows (V.Shy.none rfl) tabOk e68
set_option maxRecDepth 1000000 in
theorem e74 : V.ftells Tryz.prog an0 tab 400 142 a74 r74 = true := by kernel_rfl
theorem h74 : V.Holds Tryz.prog 142 a74 r74 := V.holds_of_ftells good0 regs follows (V.Shy.none rfl) tabOk e74
set_option maxRecDepth 1000000 in
theorem e82 : V.ftells Tryz.prog an0 tab 400 142 a82 r82 = true := by kernel_rfl
theorem h82 : V.Holds Tryz.prog 142 a82 r82 := V.holds_of_ftells good0 regs follows (V.Shy.none rfl) tabOk e82
set_option maxRecDepth 1000000 in
theorem e89 : V.ftells Tryz.prog an0 tab 400 142 a89 r89 = true := by kernel_rfl
theorem h89 : V.Holds Tryz.prog 142 a89 r89 := V.holds_of_ftells good0 regs follows (V.Shy.none rfl) tabOk e89
set_option maxRecDepth 1000000 in
theorem e94 : V.ftells Tryz.prog an0 tab 400 71 a94 r94 = true := by kernel_rfl
theorem h94 : V.Holds Tryz.prog 71 a94 r94 := V.holds_of_ftells good0 regs follows (V.Shy.none rfl) tabOk e94
set_option maxRecDepth 1000000 in
theorem e98 : V.ftells Tryz.prog an0 tab 400 12 a98 r98 = true := by kernel_rfl
theorem h98 : V.Holds Tryz.prog 12 a98 r98 := V.holds_of_ftells good0 regs follows (V.Shy.none rfl) tabOk e98
set_option maxRecDepth 1000000 in
theorem e104 : V.ftells Tryz.prog an0 tab 400 14 a104 r104 = true := by kernel_rfl
theorem h104 : V.Holds Tryz.prog 14 a104 r104 := V.holds_of_ftells good0 regs follows (V.Shy.none rfl) tabOk e104
set_option maxRecDepth 1000000 in
theorem e113 : V.ftells Tryz.prog an0 tab 400 79 a113 r113 = true := by kernel_rfl
theorem h113 : V.Holds Tryz.prog 79 a113 r113 := V.holds_of_ftells good0 regs follows (V.Shy.none rfl) tabOk e113
set_option maxRecDepth 1000000 in
theorem e131 : V.ftells Tryz.prog an0 tab 400 23 a131 r131 = true := by kernel_rfl
theorem h131 : V.Holds Tryz.prog 23 a131 r131 := V.holds_of_ftells good0 regs follows (V.Shy.none rfl) tabOk e131
set_option maxRecDepth 1000000 in
theorem e141 : V.ftells Tryz.prog an0 tab 400 31 a141 r141 = true := by kernel_rfl
theorem h141 : V.Holds Tryz.prog 31 a141 r141 := V.holds_of_ftells good0 regs follows (V.Shy.none rfl) tabOk e141
set_option maxRecDepth 1000000 in
theorem e181 : V.ftells Tryz.prog an0 tab 400 109 a181 r181 = true := by kernel_rfl
theorem h181 : V.Holds Tryz.prog 109 a181 r181 := V.holds_of_ftells good0 regs follows (V.Shy.none rfl) tabOk e181
set_option maxRecDepth 1000000 in
theorem e185 : V.ftells Tryz.prog an0 tab 400 79 a185 r185 = true := by kernel_rfl
theorem h185 : V.Holds Tryz.prog 79 a185 r185 := V.holds_of_ftells good0 regs follows (V.Shy.none rfl) tabOk e185
set_option maxRecDepth 1000000 in
theorem e202 : V.ftells Tryz.prog an0 tab 400 174 a202 r202 = true := by kernel_rfl
theorem h202 : V.Holds Tryz.prog 174 a202 r202 := V.holds_of_ftells good0 regs follows (V.Shy.none rfl) tabOk e202
set_option maxRecDepth 1000000 in
theorem e235 : V.ftells Tryz.prog an0 tab 400 87 a235 r235 = true := by kernel_rfl
theorem h235 : V.Holds Tryz.prog 87 a235 r235 := V.holds_of_ftells good0 regs follows (V.Shy.none rfl) tabOk e235
set_option maxRecDepth 1000000 in
theorem e258 : V.ftells Tryz.prog an0 tab 400 23 a258 r258 = true := by kernel_rfl
theorem h258 : V.Holds Tryz.prog 23 a258 r258 := V.holds_of_ftells good0 regs follows (V.Shy.none rfl) tabOk e258
set_option maxRecDepth 1000000 in
theorem e284 : V.ftells Tryz.prog an0 tab 400 14 a284 r284 = true := by kernel_rfl
theorem h284 : V.Holds Tryz.prog 14 a284 r284 := V.holds_of_ftells good0 regs follows (V.Shy.none rfl) tabOk e284
set_option maxRecDepth 1000000 in
theorem e291 : V.ftells Tryz.prog an0 tab 400 47 a291 r291 = true := by kernel_rfl
theorem h291 : V.Holds Tryz.prog 47 a291 r291 := V.holds_of_ftells good0 regs follows (V.Shy.none rfl) tabOk e291
set_option maxRecDepth 1000000 in
theorem e297 : V.ftells Tryz.prog an0 tab 400 87 a297 r297 = true := by kernel_rfl
theorem h297 : V.Holds Tryz.prog 87 a297 r297 := V.holds_of_ftells good0 regs follows (V.Shy.none rfl) tabOk e297
set_option maxRecDepth 1000000 in
theorem e314 : V.ftells Tryz.prog an0 tab 400 12 a314 r314 = true := by kernel_rfl
theorem h314 : V.Holds Tryz.prog 12 a314 r314 := V.holds_of_ftells good0 regs follows (V.Shy.none rfl) tabOk e314
set_option maxRecDepth 1000000 in
theorem e380 : V.ftells Tryz.prog an0 tab 400 79 a380 r380 = true := by kernel_rfl
theorem h380 : V.Holds Tryz.prog 79 a380 r380 := V.holds_of_ftells good0 regs follows (V.Shy.none rfl) tabOk e380
end Go.Proofs.YtillejiepbgkbaaGreat.Say
