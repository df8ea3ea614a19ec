/- Closed calls, level 2. -/
import Derived.Test.YtillejiepbgkbaaGreatSayT2a
set_option linter.unusedVariables false
namespace Go.Proofs.YtillejiepbgkbaaGreat.Say
open Go Go.RowKit
open V (D)
set_option maxRecDepth 1000000 in
theorem e38 : V.ftells Tryz.prog an2 tab 400 49 a38 r38 = true := by kernel_rfl
theorem h38 : V.Holds Tryz.prog 49 a38 r38 := V.holds_of_ftells good2 regs follows (V.Shy.none rfl) tabOk e38
set_option maxRecDepth 1000000 in
theorem e45 : V.ftells Tryz.prog an2 tab 400 85 a45 r45 = true := by kernel_rfl
theorem h45 : V.Holds Tryz.prog 85 a45 r45 := V.holds_of_ftells good2 regs follows (V.Shy.none rfl) tabOk e45
set_option maxRecDepth 1000000 in
theorem e63 : V.ftells Tryz.prog an2 tab 400 49 a63 r63 = true := by kernel_rfl
theorem h63 : V.Holds Tryz.prog 49 a63 r63 := V.holds_of_ftells good2 regs follows (V.Shy.none rfl) tabOk e63
set_option maxRecDepth 1000000 in
theorem e67 : V.ftells Tryz.prog an2 tab 400 85 a67 r67 = true := by kernel_rfl
theorem h67 : V.Holds Tryz.prog 85 a67 r67 := V.holds_of_ftells good2 regs follows (V.Shy.none rfl) tabOk e67
set_option maxRecDepth 1000000 in
theorem e70 : V.ftells Tryz.prog an2 tab 400 132 a70 r70 = true := by kernel_rfl
theorem h70 : V.Holds Tryz.prog 132 a70 r70 := V.holds_of_ftells good2 regs follows (V.Shy.none rfl) tabOk e70
set_option maxRecDepth 1000000 in
theorem e77 : V.ftells Tryz.prog an2 tab 400 63 a77 r77 = true := by kernel_rfl
theorem h77 : V.Holds Tryz.prog 63 a77 r77 := V.holds_of_ftells good2 regs follows (V.Shy.none rfl) tabOk e77
set_option maxRecDepth 1000000 in
theorem e84 : V.ftells Tryz.prog an2 tab 400 63 a84 r84 = true := by kernel_rfl
theorem h84 : V.Holds Tryz.prog 63 a84 r84 := V.holds_of_ftells good2 regs follows (V.Shy.none rfl) tabOk e84
set_option maxRecDepth 1000000 in
theorem e91 : V.ftells Tryz.prog an2 tab 400 63 a91 r91 = true := by kernel_rfl
theorem h91 : V.Holds Tryz.prog 63 a91 r91 := V.holds_of_ftells good2 regs follows (V.Shy.none rfl) tabOk e91
set_option maxRecDepth 1000000 in
theorem e100 : V.ftells Tryz.prog an2 tab 400 63 a100 r100 = true := by kernel_rfl
theorem h100 : V.Holds Tryz.prog 63 a100 r100 := V.holds_of_ftells good2 regs follows (V.Shy.none rfl) tabOk e100
set_option maxRecDepth 1000000 in
theorem e125 : V.ftells Tryz.prog an2 tab 400 6 a125 r125 = true := by kernel_rfl
theorem h125 : V.Holds Tryz.prog 6 a125 r125 := V.holds_of_ftells good2 regs follows (V.Shy.none rfl) tabOk e125
set_option maxRecDepth 1000000 in
theorem e129 : V.ftells Tryz.prog an2 tab 400 49 a129 r129 = true := by kernel_rfl
theorem h129 : V.Holds Tryz.prog 49 a129 r129 := V.holds_of_ftells good2 regs follows (V.Shy.none rfl) tabOk e129
set_option maxRecDepth 1000000 in
theorem e133 : V.ftells Tryz.prog an2 tab 400 85 a133 r133 = true := by kernel_rfl
theorem h133 : V.Holds Tryz.prog 85 a133 r133 := V.holds_of_ftells good2 regs follows (V.Shy.none rfl) tabOk e133
set_option maxRecDepth 1000000 in
theorem e137 : V.ftells Tryz.prog an2 tab 400 132 a137 r137 = true := by kernel_rfl
theorem h137 : V.Holds Tryz.prog 132 a137 r137 := V.holds_of_ftells good2 regs follows (V.Shy.none rfl) tabOk e137
set_option maxRecDepth 1000000 in
theorem e147 : V.ftells Tryz.prog an2 tab 400 63 a147 r147 = true := by kernel_rfl
theorem h147 : V.Holds Tryz.prog 63 a147 r147 := V.holds_of_ftells good2 regs follows (V.Shy.none rfl) tabOk e147
set_option maxRecDepth 1000000 in
theorem e154 : V.ftells Tryz.prog an2 tab 400 63 a154 r154 = true := by kernel_rfl
theorem h154 : V.Holds Tryz.prog 63 a154 r154 := V.holds_of_ftells good2 regs follows (V.Shy.none rfl) tabOk e154
set_option maxRecDepth 1000000 in
theorem e158 : V.ftells Tryz.prog an2 tab 400 17 a158 r158 = true := by kernel_rfl
theorem h158 : V.Holds Tryz.prog 17 a158 r158 := V.holds_of_ftells good2 regs follows (V.Shy.none rfl) tabOk e158
set_option maxRecDepth 1000000 in
theorem e180 : V.ftells Tryz.prog an2 tab 400 63 a180 r180 = true := by kernel_rfl
theorem h180 : V.Holds Tryz.prog 63 a180 r180 := V.holds_of_ftells good2 regs follows (V.Shy.none rfl) tabOk e180
set_option maxRecDepth 1000000 in
theorem e194 : V.ftells Tryz.prog an2 tab 400 85 a194 r194 = true := by kernel_rfl
theorem h194 : V.Holds Tryz.prog 85 a194 r194 := V.holds_of_ftells good2 regs follows (V.Shy.none rfl) tabOk e194
set_option maxRecDepth 1000000 in
theorem e197 : V.ftells Tryz.prog an2 tab 400 85 a197 r197 = true := by kernel_rfl
theorem h197 : V.Holds Tryz.prog 85 a197 r197 := V.holds_of_ftells good2 regs follows (V.Shy.none rfl) tabOk e197
set_option maxRecDepth 1000000 in
theorem e204 : V.ftells Tryz.prog an2 tab 400 132 a204 r204 = true := by kernel_rfl
theorem h204 : V.Holds Tryz.prog 132 a204 r204 := V.holds_of_ftells good2 regs follows (V.Shy.none rfl) tabOk e204
set_option maxRecDepth 1000000 in
theorem e213 : V.ftells Tryz.prog an2 tab 400 63 a213 r213 = true := by kernel_rfl
theorem h213 : V.Holds Tryz.prog 63 a213 r213 := V.holds_of_ftells good2 regs follows (V.Shy.none rfl) tabOk e213
set_option maxRecDepth 1000000 in
theorem e221 : V.ftells Tryz.prog an2 tab 400 63 a221 r221 = true := by kernel_rfl
theorem h221 : V.Holds Tryz.prog 63 a221 r221 := V.holds_of_ftells good2 regs follows (V.Shy.none rfl) tabOk e221
set_option maxRecDepth 1000000 in
theorem e226 : V.ftells Tryz.prog an2 tab 400 17 a226 r226 = true := by kernel_rfl
theorem h226 : V.Holds Tryz.prog 17 a226 r226 := V.holds_of_ftells good2 regs follows (V.Shy.none rfl) tabOk e226
set_option maxRecDepth 1000000 in
theorem e231 : V.ftells Tryz.prog an2 tab 400 49 a231 r231 = true := by kernel_rfl
theorem h231 : V.Holds Tryz.prog 49 a231 r231 := V.holds_of_ftells good2 regs follows (V.Shy.none rfl) tabOk e231
set_option maxRecDepth 1000000 in
theorem e248 : V.ftells Tryz.prog an2 tab 400 63 a248 r248 = true := by kernel_rfl
theorem h248 : V.Holds Tryz.prog 63 a248 r248 := V.holds_of_ftells good2 regs follows (V.Shy.none rfl) tabOk e248
set_option maxRecDepth 1000000 in
theorem e259 : V.ftells Tryz.prog an2 tab 400 85 a259 r259 = true := by kernel_rfl
theorem h259 : V.Holds Tryz.prog 85 a259 r259 := V.holds_of_ftells good2 regs follows (V.Shy.none rfl) tabOk e259
set_option maxRecDepth 1000000 in
theorem e263 : V.ftells Tryz.prog an2 tab 400 85 a263 r263 = true := by kernel_rfl
theorem h263 : V.Holds Tryz.prog 85 a263 r263 := V.holds_of_ftells good2 regs follows (V.Shy.none rfl) tabOk e263
set_option maxRecDepth 1000000 in
theorem e267 : V.ftells Tryz.prog an2 tab 400 132 a267 r267 = true := by kernel_rfl
theorem h267 : V.Holds Tryz.prog 132 a267 r267 := V.holds_of_ftells good2 regs follows (V.Shy.none rfl) tabOk e267
set_option maxRecDepth 1000000 in
theorem e272 : V.ftells Tryz.prog an2 tab 400 63 a272 r272 = true := by kernel_rfl
theorem h272 : V.Holds Tryz.prog 63 a272 r272 := V.holds_of_ftells good2 regs follows (V.Shy.none rfl) tabOk e272
set_option maxRecDepth 1000000 in
theorem e278 : V.ftells Tryz.prog an2 tab 400 63 a278 r278 = true := by kernel_rfl
theorem h278 : V.Holds Tryz.prog 63 a278 r278 := V.holds_of_ftells good2 regs follows (V.Shy.none rfl) tabOk e278
set_option maxRecDepth 1000000 in
theorem e293 : V.ftells Tryz.prog an2 tab 400 49 a293 r293 = true := by kernel_rfl
theorem h293 : V.Holds Tryz.prog 49 a293 r293 := V.holds_of_ftells good2 regs follows (V.Shy.none rfl) tabOk e293
set_option maxRecDepth 1000000 in
theorem e306 : V.ftells Tryz.prog an2 tab 400 63 a306 r306 = true := by kernel_rfl
theorem h306 : V.Holds Tryz.prog 63 a306 r306 := V.holds_of_ftells good2 regs follows (V.Shy.none rfl) tabOk e306
set_option maxRecDepth 1000000 in
theorem e312 : V.ftells Tryz.prog an2 tab 400 63 a312 r312 = true := by kernel_rfl
theorem h312 : V.Holds Tryz.prog 63 a312 r312 := V.holds_of_ftells good2 regs follows (V.Shy.none rfl) tabOk e312
set_option maxRecDepth 1000000 in
theorem e327 : V.ftells Tryz.prog an2 tab 400 18 a327 r327 = true := by kernel_rfl
theorem h327 : V.Holds Tryz.prog 18 a327 r327 := V.holds_of_ftells good2 regs follows (V.Shy.none rfl) tabOk e327
set_option maxRecDepth 1000000 in
theorem e335 : V.ftells Tryz.prog an2 tab 400 85 a335 r335 = true := by kernel_rfl
theorem h335 : V.Holds Tryz.prog 85 a335 r335 := V.holds_of_ftells good2 regs follows (V.Shy.none rfl) tabOk e335
set_option maxRecDepth 1000000 in
theorem e338 : V.ftells Tryz.prog an2 tab 400 63 a338 r338 = true := by kernel_rfl
theorem h338 : V.Holds Tryz.prog 63 a338 r338 := V.holds_of_ftells good2 regs follows (V.Shy.none rfl) tabOk e338
set_option maxRecDepth 1000000 in
theorem e344 : V.ftells Tryz.prog an2 tab 400 63 a344 r344 = true := by kernel_rfl
theorem h344 : V.Holds Tryz.prog 63 a344 r344 := V.holds_of_ftells good2 regs follows (V.Shy.none rfl) tabOk e344
set_option maxRecDepth 1000000 in
theorem e354 : V.ftells Tryz.prog an2 tab 400 18 a354 r354 = true := by kernel_rfl
theorem h354 : V.Holds Tryz.prog 18 a354 r354 := V.holds_of_ftells good2 regs follows (V.Shy.none rfl) tabOk e354
set_option maxRecDepth 1000000 in
theorem e365 : V.ftells Tryz.prog an2 tab 400 63 a365 r365 = true := by kernel_rfl
theorem h365 : V.Holds Tryz.prog 63 a365 r365 := V.holds_of_ftells good2 regs follows (V.Shy.none rfl) tabOk e365
set_option maxRecDepth 1000000 in
theorem e371 : V.ftells Tryz.prog an2 tab 400 63 a371 r371 = true := by kernel_rfl
theorem h371 : V.Holds Tryz.prog 63 a371 r371 := V.holds_of_ftells good2 regs follows (V.Shy.none rfl) tabOk e371
set_option maxRecDepth 1000000 in
theorem e381 : V.ftells Tryz.prog an2 tab 400 49 a381 r381 = true := by kernel_rfl
theorem h381 : V.Holds Tryz.prog 49 a381 r381 := V.holds_of_ftells good2 regs follows (V.Shy.none rfl) tabOk e381
set_option maxRecDepth 1000000 in
theorem e384 : V.ftells Tryz.prog an2 tab 400 85 a384 r384 = true := by kernel_rfl
theorem h384 : V.Holds Tryz.prog 85 a384 r384 := V.holds_of_ftells good2 regs follows (V.Shy.none rfl) tabOk e384
set_option maxRecDepth 1000000 in
theorem e387 : V.ftells Tryz.prog an2 tab 400 63 a387 r387 = true := by kernel_rfl
theorem h387 : V.Holds Tryz.prog 63 a387 r387 := V.holds_of_ftells good2 regs follows (V.Shy.none rfl) tabOk e387
set_option maxRecDepth 1000000 in
theorem e393 : V.ftells Tryz.prog an2 tab 400 63 a393 r393 = true := by kernel_rfl
theorem h393 : V.Holds Tryz.prog 63 a393 r393 := V.holds_of_ftells good2 regs follows (V.Shy.none rfl) tabOk e393
set_option maxRecDepth 1000000 in
theorem e400 : V.ftells Tryz.prog an2 tab 400 6 a400 r400 = true := by kernel_rfl
theorem h400 : V.Holds Tryz.prog 6 a400 r400 := V.holds_of_ftells good2 regs follows (V.Shy.none rfl) tabOk e400
end Go.Proofs.YtillejiepbgkbaaGreat.Say
