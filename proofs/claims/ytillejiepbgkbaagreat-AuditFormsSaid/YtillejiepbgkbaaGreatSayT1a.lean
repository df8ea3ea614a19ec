/- Closed calls, level 1. -/
import Derived.Test.YtillejiepbgkbaaGreatSayT0a
import Derived.Test.YtillejiepbgkbaaGreatSayT0b
import Derived.Test.YtillejiepbgkbaaGreatSayT0c
import Derived.Test.YtillejiepbgkbaaGreatSayT0d
set_option linter.unusedVariables false
namespace Go.Proofs.YtillejiepbgkbaaGreat.Say
open Go Go.RowKit
open V (D)
noncomputable def t1 : V.Tbl := [(142, [(a0, r0), (a5, r5), (a6, r6), (a74, r74), (a82, r82), (a89, r89), (a97, r97)]), (189, [(a8, r8), (a324, r324), (a325, r325)]), (47, [(a15, r15), (a18, r18), (a20, r20), (a22, r22), (a24, r24), (a26, r26), (a28, r28), (a30, r30), (a32, r32), (a34, r34), (a36, r36), (a61, r61), (a127, r127), (a186, r186), (a188, r188), (a291, r291)]), (79, [(a17, r17), (a60, r60), (a113, r113), (a126, r126), (a162, r162), (a185, r185), (a230, r230), (a255, r255), (a290, r290), (a331, r331), (a358, r358), (a380, r380)]), (23, [(a40, r40), (a65, r65), (a116, r116), (a131, r131), (a165, r165), (a192, r192), (a233, r233), (a258, r258), (a295, r295), (a334, r334), (a361, r361), (a383, r383)]), (53, [(a41, r41), (a66, r66)]), (87, [(a42, r42), (a48, r48), (a50, r50), (a132, r132), (a166, r166), (a193, r193), (a200, r200), (a235, r235), (a260, r260), (a297, r297)]), (207, [(a43, r43), (a195, r195), (a261, r261)]), (135, [(a46, r46), (a198, r198)]), (88, [(a49, r49), (a58, r58), (a134, r134), (a236, r236), (a264, r264)]), (138, [(a51, r51)]), (174, [(a52, r52), (a68, r68), (a118, r118), (a135, r135), (a169, r169), (a202, r202), (a237, r237), (a265, r265), (a298, r298)]), (165, [(a56, r56)]), (31, [(a75, r75), (a141, r141), (a175, r175), (a208, r208), (a243, r243)]), (180, [(a80, r80), (a144, r144)]), (109, [(a87, r87), (a181, r181)]), (71, [(a94, r94), (a108, r108), (a217, r217), (a252, r252), (a321, r321)]), (12, [(a96, r96), (a98, r98), (a152, r152), (a219, r219), (a280, r280), (a314, r314), (a346, r346), (a373, r373), (a395, r395)]), (14, [(a104, r104), (a105, r105), (a156, r156), (a223, r223), (a284, r284), (a318, r318), (a350, r350), (a377, r377)]), (19, [(a107, r107), (a225, r225), (a320, r320)]), (17, [(a224, r224), (a352, r352)])]
theorem to1 : V.TblOk Tryz.prog t1 := (V.TblOk.cons (V.RowOk.cons h0 (V.RowOk.cons h5 (V.RowOk.cons h6 (V.RowOk.cons h74 (V.RowOk.cons h82 (V.RowOk.cons h89 (V.RowOk.cons h97 V.RowOk.nil))))))) (V.TblOk.cons (V.RowOk.cons h8 (V.RowOk.cons h324 (V.RowOk.cons h325 V.RowOk.nil))) (V.TblOk.cons (V.RowOk.cons h15 (V.RowOk.cons h18 (V.RowOk.cons h20 (V.RowOk.cons h22 (V.RowOk.cons h24 (V.RowOk.cons h26 (V.RowOk.cons h28 (V.RowOk.cons h30 (V.RowOk.cons h32 (V.RowOk.cons h34 (V.RowOk.cons h36 (V.RowOk.cons h61 (V.RowOk.cons h127 (V.RowOk.cons h186 (V.RowOk.cons h188 (V.RowOk.cons h291 V.RowOk.nil)))))))))))))))) (V.TblOk.cons (V.RowOk.cons h17 (V.RowOk.cons h60 (V.RowOk.cons h113 (V.RowOk.cons h126 (V.RowOk.cons h162 (V.RowOk.cons h185 (V.RowOk.cons h230 (V.RowOk.cons h255 (V.RowOk.cons h290 (V.RowOk.cons h331 (V.RowOk.cons h358 (V.RowOk.cons h380 V.RowOk.nil)))))))))))) (V.TblOk.cons (V.RowOk.cons h40 (V.RowOk.cons h65 (V.RowOk.cons h116 (V.RowOk.cons h131 (V.RowOk.cons h165 (V.RowOk.cons h192 (V.RowOk.cons h233 (V.RowOk.cons h258 (V.RowOk.cons h295 (V.RowOk.cons h334 (V.RowOk.cons h361 (V.RowOk.cons h383 V.RowOk.nil)))))))))))) (V.TblOk.cons (V.RowOk.cons h41 (V.RowOk.cons h66 V.RowOk.nil)) (V.TblOk.cons (V.RowOk.cons h42 (V.RowOk.cons h48 (V.RowOk.cons h50 (V.RowOk.cons h132 (V.RowOk.cons h166 (V.RowOk.cons h193 (V.RowOk.cons h200 (V.RowOk.cons h235 (V.RowOk.cons h260 (V.RowOk.cons h297 V.RowOk.nil)))))))))) (V.TblOk.cons (V.RowOk.cons h43 (V.RowOk.cons h195 (V.RowOk.cons h261 V.RowOk.nil))) (V.TblOk.cons (V.RowOk.cons h46 (V.RowOk.cons h198 V.RowOk.nil)) (V.TblOk.cons (V.RowOk.cons h49 (V.RowOk.cons h58 (V.RowOk.cons h134 (V.RowOk.cons h236 (V.RowOk.cons h264 V.RowOk.nil))))) (V.TblOk.cons (V.RowOk.cons h51 V.RowOk.nil) (V.TblOk.cons (V.RowOk.cons h52 (V.RowOk.cons h68 (V.RowOk.cons h118 (V.RowOk.cons h135 (V.RowOk.cons h169 (V.RowOk.cons h202 (V.RowOk.cons h237 (V.RowOk.cons h265 (V.RowOk.cons h298 V.RowOk.nil))))))))) (V.TblOk.cons (V.RowOk.cons h56 V.RowOk.nil) (V.TblOk.cons (V.RowOk.cons h75 (V.RowOk.cons h141 (V.RowOk.cons h175 (V.RowOk.cons h208 (V.RowOk.cons h243 V.RowOk.nil))))) (V.TblOk.cons (V.RowOk.cons h80 (V.RowOk.cons h144 V.RowOk.nil)) (V.TblOk.cons (V.RowOk.cons h87 (V.RowOk.cons h181 V.RowOk.nil)) (V.TblOk.cons (V.RowOk.cons h94 (V.RowOk.cons h108 (V.RowOk.cons h217 (V.RowOk.cons h252 (V.RowOk.cons h321 V.RowOk.nil))))) (V.TblOk.cons (V.RowOk.cons h96 (V.RowOk.cons h98 (V.RowOk.cons h152 (V.RowOk.cons h219 (V.RowOk.cons h280 (V.RowOk.cons h314 (V.RowOk.cons h346 (V.RowOk.cons h373 (V.RowOk.cons h395 V.RowOk.nil))))))))) (V.TblOk.cons (V.RowOk.cons h104 (V.RowOk.cons h105 (V.RowOk.cons h156 (V.RowOk.cons h223 (V.RowOk.cons h284 (V.RowOk.cons h318 (V.RowOk.cons h350 (V.RowOk.cons h377 V.RowOk.nil)))))))) (V.TblOk.cons (V.RowOk.cons h107 (V.RowOk.cons h225 (V.RowOk.cons h320 V.RowOk.nil))) (V.TblOk.cons (V.RowOk.cons h224 (V.RowOk.cons h352 V.RowOk.nil)) V.TblOk.nil)))))))))))))))))))))
noncomputable def an1 : V.An := { io := fun f => [25,26,40,43,60,64,67,76,115,116,152,184,186,190,216,222,224,245,246,251,252,255,257,258,259,260,261,262,263,264,265].contains f, ownRes := fun f => [39,110,111].contains f, spec := V.inTbl t1, call := V.cloneOf clones }
theorem good1 : V.Good Tryz.prog an1 := ⟨named, V.spec_of_tbl to1, (fun _ _ _ _ h => nomatch h), V.call_clones cloneOk rfl⟩
set_option maxRecDepth 1000000 in
theorem e1 : V.ftells Tryz.prog an1 tab 400 100 a1 r1 = true := by kernel_rfl
theorem h1 : V.Holds Tryz.prog 100 a1 r1 := V.holds_of_ftells good1 regs follows (V.Shy.none rfl) tabOk e1
set_option maxRecDepth 1000000 in
theorem e3 : V.ftells Tryz.prog an1 tab 400 100 a3 r3 = true := by kernel_rfl
theorem h3 : V.Holds Tryz.prog 100 a3 r3 := V.holds_of_ftells good1 regs follows (V.Shy.none rfl) tabOk e3
set_option maxRecDepth 1000000 in
theorem e7 : V.ftells Tryz.prog an1 tab 400 29 a7 r7 = true := by kernel_rfl
theorem h7 : V.Holds Tryz.prog 29 a7 r7 := V.holds_of_ftells good1 regs follows (V.Shy.none rfl) tabOk e7
set_option maxRecDepth 1000000 in
theorem e9 : V.ftells Tryz.prog an1 tab 400 151 a9 r9 = true := by kernel_rfl
theorem h9 : V.Holds Tryz.prog 151 a9 r9 := V.holds_of_ftells good1 regs follows (V.Shy.none rfl) tabOk e9
set_option maxRecDepth 1000000 in
theorem e16 : V.ftells Tryz.prog an1 tab 400 20 a16 r16 = true := by kernel_rfl
theorem h16 : V.Holds Tryz.prog 20 a16 r16 := V.holds_of_ftells good1 regs follows (V.Shy.none rfl) tabOk e16
set_option maxRecDepth 1000000 in
theorem e19 : V.ftells Tryz.prog an1 tab 400 20 a19 r19 = true := by kernel_rfl
theorem h19 : V.Holds Tryz.prog 20 a19 r19 := V.holds_of_ftells good1 regs follows (V.Shy.none rfl) tabOk e19
set_option maxRecDepth 1000000 in
theorem e21 : V.ftells Tryz.prog an1 tab 400 20 a21 r21 = true := by kernel_rfl
theorem h21 : V.Holds Tryz.prog 20 a21 r21 := V.holds_of_ftells good1 regs follows (V.Shy.none rfl) tabOk e21
set_option maxRecDepth 1000000 in
theorem e23 : V.ftells Tryz.prog an1 tab 400 20 a23 r23 = true := by kernel_rfl
theorem h23 : V.Holds Tryz.prog 20 a23 r23 := V.holds_of_ftells good1 regs follows (V.Shy.none rfl) tabOk e23
set_option maxRecDepth 1000000 in
theorem e25 : V.ftells Tryz.prog an1 tab 400 20 a25 r25 = true := by kernel_rfl
theorem h25 : V.Holds Tryz.prog 20 a25 r25 := V.holds_of_ftells good1 regs follows (V.Shy.none rfl) tabOk e25
set_option maxRecDepth 1000000 in
theorem e27 : V.ftells Tryz.prog an1 tab 400 20 a27 r27 = true := by kernel_rfl
theorem h27 : V.Holds Tryz.prog 20 a27 r27 := V.holds_of_ftells good1 regs follows (V.Shy.none rfl) tabOk e27
set_option maxRecDepth 1000000 in
theorem e29 : V.ftells Tryz.prog an1 tab 400 20 a29 r29 = true := by kernel_rfl
theorem h29 : V.Holds Tryz.prog 20 a29 r29 := V.holds_of_ftells good1 regs follows (V.Shy.none rfl) tabOk e29
set_option maxRecDepth 1000000 in
theorem e31 : V.ftells Tryz.prog an1 tab 400 20 a31 r31 = true := by kernel_rfl
theorem h31 : V.Holds Tryz.prog 20 a31 r31 := V.holds_of_ftells good1 regs follows (V.Shy.none rfl) tabOk e31
set_option maxRecDepth 1000000 in
theorem e33 : V.ftells Tryz.prog an1 tab 400 20 a33 r33 = true := by kernel_rfl
theorem h33 : V.Holds Tryz.prog 20 a33 r33 := V.holds_of_ftells good1 regs follows (V.Shy.none rfl) tabOk e33
set_option maxRecDepth 1000000 in
theorem e35 : V.ftells Tryz.prog an1 tab 400 20 a35 r35 = true := by kernel_rfl
theorem h35 : V.Holds Tryz.prog 20 a35 r35 := V.holds_of_ftells good1 regs follows (V.Shy.none rfl) tabOk e35
set_option maxRecDepth 1000000 in
theorem e37 : V.ftells Tryz.prog an1 tab 400 20 a37 r37 = true := by kernel_rfl
theorem h37 : V.Holds Tryz.prog 20 a37 r37 := V.holds_of_ftells good1 regs follows (V.Shy.none rfl) tabOk e37
set_option maxRecDepth 1000000 in
theorem e44 : V.ftells Tryz.prog an1 tab 400 138 a44 r44 = true := by kernel_rfl
theorem h44 : V.Holds Tryz.prog 138 a44 r44 := V.holds_of_ftells good1 regs follows (V.Shy.none rfl) tabOk e44
set_option maxRecDepth 1000000 in
theorem e47 : V.ftells Tryz.prog an1 tab 400 88 a47 r47 = true := by kernel_rfl
theorem h47 : V.Holds Tryz.prog 88 a47 r47 := V.holds_of_ftells good1 regs follows (V.Shy.none rfl) tabOk e47
set_option maxRecDepth 1000000 in
theorem e53 : V.ftells Tryz.prog an1 tab 400 136 a53 r53 = true := by kernel_rfl
theorem h53 : V.Holds Tryz.prog 136 a53 r53 := V.holds_of_ftells good1 regs follows (V.Shy.none rfl) tabOk e53
set_option maxRecDepth 1000000 in
theorem e57 : V.ftells Tryz.prog an1 tab 400 136 a57 r57 = true := by kernel_rfl
theorem h57 : V.Holds Tryz.prog 136 a57 r57 := V.holds_of_ftells good1 regs follows (V.Shy.none rfl) tabOk e57
set_option maxRecDepth 1000000 in
theorem e62 : V.ftells Tryz.prog an1 tab 400 20 a62 r62 = true := by kernel_rfl
theorem h62 : V.Holds Tryz.prog 20 a62 r62 := V.holds_of_ftells good1 regs follows (V.Shy.none rfl) tabOk e62
set_option maxRecDepth 1000000 in
theorem e69 : V.ftells Tryz.prog an1 tab 400 136 a69 r69 = true := by kernel_rfl
theorem h69 : V.Holds Tryz.prog 136 a69 r69 := V.holds_of_ftells good1 regs follows (V.Shy.none rfl) tabOk e69
set_option maxRecDepth 1000000 in
theorem e72 : V.ftells Tryz.prog an1 tab 400 136 a72 r72 = true := by kernel_rfl
theorem h72 : V.Holds Tryz.prog 136 a72 r72 := V.holds_of_ftells good1 regs follows (V.Shy.none rfl) tabOk e72
set_option maxRecDepth 1000000 in
theorem e76 : V.ftells Tryz.prog an1 tab 400 100 a76 r76 = true := by kernel_rfl
theorem h76 : V.Holds Tryz.prog 100 a76 r76 := V.holds_of_ftells good1 regs follows (V.Shy.none rfl) tabOk e76
set_option maxRecDepth 1000000 in
theorem e78 : V.ftells Tryz.prog an1 tab 400 100 a78 r78 = true := by kernel_rfl
theorem h78 : V.Holds Tryz.prog 100 a78 r78 := V.holds_of_ftells good1 regs follows (V.Shy.none rfl) tabOk e78
set_option maxRecDepth 1000000 in
theorem e83 : V.ftells Tryz.prog an1 tab 400 100 a83 r83 = true := by kernel_rfl
theorem h83 : V.Holds Tryz.prog 100 a83 r83 := V.holds_of_ftells good1 regs follows (V.Shy.none rfl) tabOk e83
set_option maxRecDepth 1000000 in
theorem e85 : V.ftells Tryz.prog an1 tab 400 100 a85 r85 = true := by kernel_rfl
theorem h85 : V.Holds Tryz.prog 100 a85 r85 := V.holds_of_ftells good1 regs follows (V.Shy.none rfl) tabOk e85
set_option maxRecDepth 1000000 in
theorem e90 : V.ftells Tryz.prog an1 tab 400 100 a90 r90 = true := by kernel_rfl
theorem h90 : V.Holds Tryz.prog 100 a90 r90 := V.holds_of_ftells good1 regs follows (V.Shy.none rfl) tabOk e90
set_option maxRecDepth 1000000 in
theorem e92 : V.ftells Tryz.prog an1 tab 400 100 a92 r92 = true := by kernel_rfl
theorem h92 : V.Holds Tryz.prog 100 a92 r92 := V.holds_of_ftells good1 regs follows (V.Shy.none rfl) tabOk e92
set_option maxRecDepth 1000000 in
theorem e99 : V.ftells Tryz.prog an1 tab 400 100 a99 r99 = true := by kernel_rfl
theorem h99 : V.Holds Tryz.prog 100 a99 r99 := V.holds_of_ftells good1 regs follows (V.Shy.none rfl) tabOk e99
set_option maxRecDepth 1000000 in
theorem e101 : V.ftells Tryz.prog an1 tab 400 100 a101 r101 = true := by kernel_rfl
theorem h101 : V.Holds Tryz.prog 100 a101 r101 := V.holds_of_ftells good1 regs follows (V.Shy.none rfl) tabOk e101
set_option maxRecDepth 1000000 in
theorem e106 : V.ftells Tryz.prog an1 tab 400 17 a106 r106 = true := by kernel_rfl
theorem h106 : V.Holds Tryz.prog 17 a106 r106 := V.holds_of_ftells good1 regs follows (V.Shy.none rfl) tabOk e106
set_option maxRecDepth 1000000 in
theorem e119 : V.ftells Tryz.prog an1 tab 400 136 a119 r119 = true := by kernel_rfl
theorem h119 : V.Holds Tryz.prog 136 a119 r119 := V.holds_of_ftells good1 regs follows (V.Shy.none rfl) tabOk e119
set_option maxRecDepth 1000000 in
theorem e122 : V.ftells Tryz.prog an1 tab 400 136 a122 r122 = true := by kernel_rfl
theorem h122 : V.Holds Tryz.prog 136 a122 r122 := V.holds_of_ftells good1 regs follows (V.Shy.none rfl) tabOk e122
set_option maxRecDepth 1000000 in
theorem e124 : V.ftells Tryz.prog an1 tab 400 29 a124 r124 = true := by kernel_rfl
theorem h124 : V.Holds Tryz.prog 29 a124 r124 := V.holds_of_ftells good1 regs follows (V.Shy.none rfl) tabOk e124
set_option maxRecDepth 1000000 in
theorem e128 : V.ftells Tryz.prog an1 tab 400 20 a128 r128 = true := by kernel_rfl
theorem h128 : V.Holds Tryz.prog 20 a128 r128 := V.holds_of_ftells good1 regs follows (V.Shy.none rfl) tabOk e128
set_option maxRecDepth 1000000 in
theorem e136 : V.ftells Tryz.prog an1 tab 400 136 a136 r136 = true := by kernel_rfl
theorem h136 : V.Holds Tryz.prog 136 a136 r136 := V.holds_of_ftells good1 regs follows (V.Shy.none rfl) tabOk e136
set_option maxRecDepth 1000000 in
theorem e139 : V.ftells Tryz.prog an1 tab 400 136 a139 r139 = true := by kernel_rfl
theorem h139 : V.Holds Tryz.prog 136 a139 r139 := V.holds_of_ftells good1 regs follows (V.Shy.none rfl) tabOk e139
set_option maxRecDepth 1000000 in
theorem e142 : V.ftells Tryz.prog an1 tab 400 100 a142 r142 = true := by kernel_rfl
theorem h142 : V.Holds Tryz.prog 100 a142 r142 := V.holds_of_ftells good1 regs follows (V.Shy.none rfl) tabOk e142
set_option maxRecDepth 1000000 in
theorem e146 : V.ftells Tryz.prog an1 tab 400 100 a146 r146 = true := by kernel_rfl
theorem h146 : V.Holds Tryz.prog 100 a146 r146 := V.holds_of_ftells good1 regs follows (V.Shy.none rfl) tabOk e146
set_option maxRecDepth 1000000 in
theorem e149 : V.ftells Tryz.prog an1 tab 400 100 a149 r149 = true := by kernel_rfl
theorem h149 : V.Holds Tryz.prog 100 a149 r149 := V.holds_of_ftells good1 regs follows (V.Shy.none rfl) tabOk e149
set_option maxRecDepth 1000000 in
theorem e153 : V.ftells Tryz.prog an1 tab 400 100 a153 r153 = true := by kernel_rfl
theorem h153 : V.Holds Tryz.prog 100 a153 r153 := V.holds_of_ftells good1 regs follows (V.Shy.none rfl) tabOk e153
set_option maxRecDepth 1000000 in
theorem e157 : V.ftells Tryz.prog an1 tab 400 17 a157 r157 = true := by kernel_rfl
theorem h157 : V.Holds Tryz.prog 17 a157 r157 := V.holds_of_ftells good1 regs follows (V.Shy.none rfl) tabOk e157
set_option maxRecDepth 1000000 in
theorem e168 : V.ftells Tryz.prog an1 tab 400 88 a168 r168 = true := by kernel_rfl
theorem h168 : V.Holds Tryz.prog 88 a168 r168 := V.holds_of_ftells good1 regs follows (V.Shy.none rfl) tabOk e168
set_option maxRecDepth 1000000 in
theorem e170 : V.ftells Tryz.prog an1 tab 400 136 a170 r170 = true := by kernel_rfl
theorem h170 : V.Holds Tryz.prog 136 a170 r170 := V.holds_of_ftells good1 regs follows (V.Shy.none rfl) tabOk e170
set_option maxRecDepth 1000000 in
theorem e173 : V.ftells Tryz.prog an1 tab 400 136 a173 r173 = true := by kernel_rfl
theorem h173 : V.Holds Tryz.prog 136 a173 r173 := V.holds_of_ftells good1 regs follows (V.Shy.none rfl) tabOk e173
set_option maxRecDepth 1000000 in
theorem e176 : V.ftells Tryz.prog an1 tab 400 100 a176 r176 = true := by kernel_rfl
theorem h176 : V.Holds Tryz.prog 100 a176 r176 := V.holds_of_ftells good1 regs follows (V.Shy.none rfl) tabOk e176
set_option maxRecDepth 1000000 in
theorem e179 : V.ftells Tryz.prog an1 tab 400 100 a179 r179 = true := by kernel_rfl
theorem h179 : V.Holds Tryz.prog 100 a179 r179 := V.holds_of_ftells good1 regs follows (V.Shy.none rfl) tabOk e179
set_option maxRecDepth 1000000 in
theorem e182 : V.ftells Tryz.prog an1 tab 400 29 a182 r182 = true := by kernel_rfl
theorem h182 : V.Holds Tryz.prog 29 a182 r182 := V.holds_of_ftells good1 regs follows (V.Shy.none rfl) tabOk e182
set_option maxRecDepth 1000000 in
theorem e187 : V.ftells Tryz.prog an1 tab 400 20 a187 r187 = true := by kernel_rfl
theorem h187 : V.Holds Tryz.prog 20 a187 r187 := V.holds_of_ftells good1 regs follows (V.Shy.none rfl) tabOk e187
set_option maxRecDepth 1000000 in
theorem e189 : V.ftells Tryz.prog an1 tab 400 20 a189 r189 = true := by kernel_rfl
theorem h189 : V.Holds Tryz.prog 20 a189 r189 := V.holds_of_ftells good1 regs follows (V.Shy.none rfl) tabOk e189
set_option maxRecDepth 1000000 in
theorem e196 : V.ftells Tryz.prog an1 tab 400 138 a196 r196 = true := by kernel_rfl
theorem h196 : V.Holds Tryz.prog 138 a196 r196 := V.holds_of_ftells good1 regs follows (V.Shy.none rfl) tabOk e196
set_option maxRecDepth 1000000 in
theorem e199 : V.ftells Tryz.prog an1 tab 400 88 a199 r199 = true := by kernel_rfl
theorem h199 : V.Holds Tryz.prog 88 a199 r199 := V.holds_of_ftells good1 regs follows (V.Shy.none rfl) tabOk e199
set_option maxRecDepth 1000000 in
theorem e201 : V.ftells Tryz.prog an1 tab 400 88 a201 r201 = true := by kernel_rfl
theorem h201 : V.Holds Tryz.prog 88 a201 r201 := V.holds_of_ftells good1 regs follows (V.Shy.none rfl) tabOk e201
set_option maxRecDepth 1000000 in
theorem e203 : V.ftells Tryz.prog an1 tab 400 136 a203 r203 = true := by kernel_rfl
theorem h203 : V.Holds Tryz.prog 136 a203 r203 := V.holds_of_ftells good1 regs follows (V.Shy.none rfl) tabOk e203
set_option maxRecDepth 1000000 in
theorem e206 : V.ftells Tryz.prog an1 tab 400 136 a206 r206 = true := by kernel_rfl
theorem h206 : V.Holds Tryz.prog 136 a206 r206 := V.holds_of_ftells good1 regs follows (V.Shy.none rfl) tabOk e206
set_option maxRecDepth 1000000 in
theorem e209 : V.ftells Tryz.prog an1 tab 400 100 a209 r209 = true := by kernel_rfl
theorem h209 : V.Holds Tryz.prog 100 a209 r209 := V.holds_of_ftells good1 regs follows (V.Shy.none rfl) tabOk e209
set_option maxRecDepth 1000000 in
theorem e212 : V.ftells Tryz.prog an1 tab 400 100 a212 r212 = true := by kernel_rfl
theorem h212 : V.Holds Tryz.prog 100 a212 r212 := V.holds_of_ftells good1 regs follows (V.Shy.none rfl) tabOk e212
set_option maxRecDepth 1000000 in
theorem e215 : V.ftells Tryz.prog an1 tab 400 100 a215 r215 = true := by kernel_rfl
theorem h215 : V.Holds Tryz.prog 100 a215 r215 := V.holds_of_ftells good1 regs follows (V.Shy.none rfl) tabOk e215
set_option maxRecDepth 1000000 in
theorem e220 : V.ftells Tryz.prog an1 tab 400 100 a220 r220 = true := by kernel_rfl
theorem h220 : V.Holds Tryz.prog 100 a220 r220 := V.holds_of_ftells good1 regs follows (V.Shy.none rfl) tabOk e220
set_option maxRecDepth 1000000 in
theorem e238 : V.ftells Tryz.prog an1 tab 400 136 a238 r238 = true := by kernel_rfl
theorem h238 : V.Holds Tryz.prog 136 a238 r238 := V.holds_of_ftells good1 regs follows (V.Shy.none rfl) tabOk e238
set_option maxRecDepth 1000000 in
theorem e241 : V.ftells Tryz.prog an1 tab 400 136 a241 r241 = true := by kernel_rfl
theorem h241 : V.Holds Tryz.prog 136 a241 r241 := V.holds_of_ftells good1 regs follows (V.Shy.none rfl) tabOk e241
set_option maxRecDepth 1000000 in
theorem e244 : V.ftells Tryz.prog an1 tab 400 100 a244 r244 = true := by kernel_rfl
theorem h244 : V.Holds Tryz.prog 100 a244 r244 := V.holds_of_ftells good1 regs follows (V.Shy.none rfl) tabOk e244
set_option maxRecDepth 1000000 in
theorem e247 : V.ftells Tryz.prog an1 tab 400 100 a247 r247 = true := by kernel_rfl
theorem h247 : V.Holds Tryz.prog 100 a247 r247 := V.holds_of_ftells good1 regs follows (V.Shy.none rfl) tabOk e247
set_option maxRecDepth 1000000 in
theorem e250 : V.ftells Tryz.prog an1 tab 400 100 a250 r250 = true := by kernel_rfl
theorem h250 : V.Holds Tryz.prog 100 a250 r250 := V.holds_of_ftells good1 regs follows (V.Shy.none rfl) tabOk e250
set_option maxRecDepth 1000000 in
theorem e262 : V.ftells Tryz.prog an1 tab 400 138 a262 r262 = true := by kernel_rfl
theorem h262 : V.Holds Tryz.prog 138 a262 r262 := V.holds_of_ftells good1 regs follows (V.Shy.none rfl) tabOk e262
set_option maxRecDepth 1000000 in
theorem e266 : V.ftells Tryz.prog an1 tab 400 136 a266 r266 = true := by kernel_rfl
theorem h266 : V.Holds Tryz.prog 136 a266 r266 := V.holds_of_ftells good1 regs follows (V.Shy.none rfl) tabOk e266
set_option maxRecDepth 1000000 in
theorem e269 : V.ftells Tryz.prog an1 tab 400 136 a269 r269 = true := by kernel_rfl
theorem h269 : V.Holds Tryz.prog 136 a269 r269 := V.holds_of_ftells good1 regs follows (V.Shy.none rfl) tabOk e269
set_option maxRecDepth 1000000 in
theorem e271 : V.ftells Tryz.prog an1 tab 400 100 a271 r271 = true := by kernel_rfl
theorem h271 : V.Holds Tryz.prog 100 a271 r271 := V.holds_of_ftells good1 regs follows (V.Shy.none rfl) tabOk e271
set_option maxRecDepth 1000000 in
theorem e274 : V.ftells Tryz.prog an1 tab 400 100 a274 r274 = true := by kernel_rfl
theorem h274 : V.Holds Tryz.prog 100 a274 r274 := V.holds_of_ftells good1 regs follows (V.Shy.none rfl) tabOk e274
set_option maxRecDepth 1000000 in
theorem e277 : V.ftells Tryz.prog an1 tab 400 100 a277 r277 = true := by kernel_rfl
theorem h277 : V.Holds Tryz.prog 100 a277 r277 := V.holds_of_ftells good1 regs follows (V.Shy.none rfl) tabOk e277
set_option maxRecDepth 1000000 in
theorem e281 : V.ftells Tryz.prog an1 tab 400 100 a281 r281 = true := by kernel_rfl
theorem h281 : V.Holds Tryz.prog 100 a281 r281 := V.holds_of_ftells good1 regs follows (V.Shy.none rfl) tabOk e281
set_option maxRecDepth 1000000 in
theorem e285 : V.ftells Tryz.prog an1 tab 400 17 a285 r285 = true := by kernel_rfl
theorem h285 : V.Holds Tryz.prog 17 a285 r285 := V.holds_of_ftells good1 regs follows (V.Shy.none rfl) tabOk e285
set_option maxRecDepth 1000000 in
theorem e292 : V.ftells Tryz.prog an1 tab 400 20 a292 r292 = true := by kernel_rfl
theorem h292 : V.Holds Tryz.prog 20 a292 r292 := V.holds_of_ftells good1 regs follows (V.Shy.none rfl) tabOk e292
set_option maxRecDepth 1000000 in
theorem e299 : V.ftells Tryz.prog an1 tab 400 136 a299 r299 = true := by kernel_rfl
theorem h299 : V.Holds Tryz.prog 136 a299 r299 := V.holds_of_ftells good1 regs follows (V.Shy.none rfl) tabOk e299
set_option maxRecDepth 1000000 in
theorem e302 : V.ftells Tryz.prog an1 tab 400 136 a302 r302 = true := by kernel_rfl
theorem h302 : V.Holds Tryz.prog 136 a302 r302 := V.holds_of_ftells good1 regs follows (V.Shy.none rfl) tabOk e302
set_option maxRecDepth 1000000 in
theorem e303 : V.ftells Tryz.prog an1 tab 400 88 a303 r303 = true := by kernel_rfl
theorem h303 : V.Holds Tryz.prog 88 a303 r303 := V.holds_of_ftells good1 regs follows (V.Shy.none rfl) tabOk e303
set_option maxRecDepth 1000000 in
theorem e305 : V.ftells Tryz.prog an1 tab 400 100 a305 r305 = true := by kernel_rfl
theorem h305 : V.Holds Tryz.prog 100 a305 r305 := V.holds_of_ftells good1 regs follows (V.Shy.none rfl) tabOk e305
set_option maxRecDepth 1000000 in
theorem e308 : V.ftells Tryz.prog an1 tab 400 100 a308 r308 = true := by kernel_rfl
theorem h308 : V.Holds Tryz.prog 100 a308 r308 := V.holds_of_ftells good1 regs follows (V.Shy.none rfl) tabOk e308
set_option maxRecDepth 1000000 in
theorem e311 : V.ftells Tryz.prog an1 tab 400 100 a311 r311 = true := by kernel_rfl
theorem h311 : V.Holds Tryz.prog 100 a311 r311 := V.holds_of_ftells good1 regs follows (V.Shy.none rfl) tabOk e311
set_option maxRecDepth 1000000 in
theorem e315 : V.ftells Tryz.prog an1 tab 400 100 a315 r315 = true := by kernel_rfl
theorem h315 : V.Holds Tryz.prog 100 a315 r315 := V.holds_of_ftells good1 regs follows (V.Shy.none rfl) tabOk e315
set_option maxRecDepth 1000000 in
theorem e319 : V.ftells Tryz.prog an1 tab 400 17 a319 r319 = true := by kernel_rfl
theorem h319 : V.Holds Tryz.prog 17 a319 r319 := V.holds_of_ftells good1 regs follows (V.Shy.none rfl) tabOk e319
set_option maxRecDepth 1000000 in
theorem e323 : V.ftells Tryz.prog an1 tab 400 29 a323 r323 = true := by kernel_rfl
theorem h323 : V.Holds Tryz.prog 29 a323 r323 := V.holds_of_ftells good1 regs follows (V.Shy.none rfl) tabOk e323
set_option maxRecDepth 1000000 in
theorem e326 : V.ftells Tryz.prog an1 tab 400 151 a326 r326 = true := by kernel_rfl
theorem h326 : V.Holds Tryz.prog 151 a326 r326 := V.holds_of_ftells good1 regs follows (V.Shy.none rfl) tabOk e326
set_option maxRecDepth 1000000 in
theorem e337 : V.ftells Tryz.prog an1 tab 400 100 a337 r337 = true := by kernel_rfl
theorem h337 : V.Holds Tryz.prog 100 a337 r337 := V.holds_of_ftells good1 regs follows (V.Shy.none rfl) tabOk e337
set_option maxRecDepth 1000000 in
theorem e340 : V.ftells Tryz.prog an1 tab 400 100 a340 r340 = true := by kernel_rfl
theorem h340 : V.Holds Tryz.prog 100 a340 r340 := V.holds_of_ftells good1 regs follows (V.Shy.none rfl) tabOk e340
set_option maxRecDepth 1000000 in
theorem e343 : V.ftells Tryz.prog an1 tab 400 100 a343 r343 = true := by kernel_rfl
theorem h343 : V.Holds Tryz.prog 100 a343 r343 := V.holds_of_ftells good1 regs follows (V.Shy.none rfl) tabOk e343
set_option maxRecDepth 1000000 in
theorem e347 : V.ftells Tryz.prog an1 tab 400 100 a347 r347 = true := by kernel_rfl
theorem h347 : V.Holds Tryz.prog 100 a347 r347 := V.holds_of_ftells good1 regs follows (V.Shy.none rfl) tabOk e347
set_option maxRecDepth 1000000 in
theorem e351 : V.ftells Tryz.prog an1 tab 400 17 a351 r351 = true := by kernel_rfl
theorem h351 : V.Holds Tryz.prog 17 a351 r351 := V.holds_of_ftells good1 regs follows (V.Shy.none rfl) tabOk e351
set_option maxRecDepth 1000000 in
theorem e353 : V.ftells Tryz.prog an1 tab 400 113 a353 r353 = true := by kernel_rfl
theorem h353 : V.Holds Tryz.prog 113 a353 r353 := V.holds_of_ftells good1 regs follows (V.Shy.none rfl) tabOk e353
set_option maxRecDepth 1000000 in
theorem e364 : V.ftells Tryz.prog an1 tab 400 100 a364 r364 = true := by kernel_rfl
theorem h364 : V.Holds Tryz.prog 100 a364 r364 := V.holds_of_ftells good1 regs follows (V.Shy.none rfl) tabOk e364
set_option maxRecDepth 1000000 in
theorem e367 : V.ftells Tryz.prog an1 tab 400 100 a367 r367 = true := by kernel_rfl
theorem h367 : V.Holds Tryz.prog 100 a367 r367 := V.holds_of_ftells good1 regs follows (V.Shy.none rfl) tabOk e367
set_option maxRecDepth 1000000 in
theorem e370 : V.ftells Tryz.prog an1 tab 400 100 a370 r370 = true := by kernel_rfl
theorem h370 : V.Holds Tryz.prog 100 a370 r370 := V.holds_of_ftells good1 regs follows (V.Shy.none rfl) tabOk e370
set_option maxRecDepth 1000000 in
theorem e374 : V.ftells Tryz.prog an1 tab 400 100 a374 r374 = true := by kernel_rfl
theorem h374 : V.Holds Tryz.prog 100 a374 r374 := V.holds_of_ftells good1 regs follows (V.Shy.none rfl) tabOk e374
set_option maxRecDepth 1000000 in
theorem e378 : V.ftells Tryz.prog an1 tab 400 13 a378 r378 = true := by kernel_rfl
theorem h378 : V.Holds Tryz.prog 13 a378 r378 := V.holds_of_ftells good1 regs follows (V.Shy.none rfl) tabOk e378
set_option maxRecDepth 1000000 in
theorem e386 : V.ftells Tryz.prog an1 tab 400 100 a386 r386 = true := by kernel_rfl
theorem h386 : V.Holds Tryz.prog 100 a386 r386 := V.holds_of_ftells good1 regs follows (V.Shy.none rfl) tabOk e386
set_option maxRecDepth 1000000 in
theorem e389 : V.ftells Tryz.prog an1 tab 400 100 a389 r389 = true := by kernel_rfl
theorem h389 : V.Holds Tryz.prog 100 a389 r389 := V.holds_of_ftells good1 regs follows (V.Shy.none rfl) tabOk e389
set_option maxRecDepth 1000000 in
theorem e392 : V.ftells Tryz.prog an1 tab 400 100 a392 r392 = true := by kernel_rfl
theorem h392 : V.Holds Tryz.prog 100 a392 r392 := V.holds_of_ftells good1 regs follows (V.Shy.none rfl) tabOk e392
set_option maxRecDepth 1000000 in
theorem e396 : V.ftells Tryz.prog an1 tab 400 100 a396 r396 = true := by kernel_rfl
theorem h396 : V.Holds Tryz.prog 100 a396 r396 := V.holds_of_ftells good1 regs follows (V.Shy.none rfl) tabOk e396
end Go.Proofs.YtillejiepbgkbaaGreat.Say
