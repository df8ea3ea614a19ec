/- Closed calls, level 2. -/
import Derived.Test.YtillejiepbgkbaaGreatSayT1a
set_option linter.unusedVariables false
namespace Go.Proofs.YtillejiepbgkbaaGreat.Say
open Go Go.RowKit
open V (D)
noncomputable def t2 : V.Tbl := [(142, [(a0, r0), (a5, r5), (a6, r6), (a74, r74), (a82, r82), (a89, r89), (a97, r97)]), (100, [(a1, r1), (a3, r3), (a76, r76), (a78, r78), (a83, r83), (a85, r85), (a90, r90), (a92, r92), (a99, r99), (a101, r101), (a142, r142), (a146, r146), (a149, r149), (a153, r153), (a176, r176), (a179, r179), (a209, r209), (a212, r212), (a215, r215), (a220, r220), (a244, r244), (a247, r247), (a250, r250), (a271, r271), (a274, r274), (a277, r277), (a281, r281), (a305, r305), (a308, r308), (a311, r311), (a315, r315), (a337, r337), (a340, r340), (a343, r343), (a347, r347), (a364, r364), (a367, r367), (a370, r370), (a374, r374), (a386, r386), (a389, r389), (a392, r392), (a396, r396)]), (29, [(a7, r7), (a124, r124), (a182, r182), (a323, r323)]), (189, [(a8, r8), (a324, r324), (a325, r325)]), (151, [(a9, r9), (a326, r326)]), (47, [(a15, r15), (a18, r18), (a20, r20), (a22, r22), (a24, r24), (a26, r26), (a28, r28), (a30, r30), (a32, r32), (a34, r34), (a36, r36), (a61, r61), (a127, r127), (a186, r186), (a188, r188), (a291, r291)]), (20, [(a16, r16), (a19, r19), (a21, r21), (a23, r23), (a25, r25), (a27, r27), (a29, r29), (a31, r31), (a33, r33), (a35, r35), (a37, r37), (a62, r62), (a128, r128), (a187, r187), (a189, r189), (a292, r292)]), (79, [(a17, r17), (a60, r60), (a113, r113), (a126, r126), (a162, r162), (a185, r185), (a230, r230), (a255, r255), (a290, r290), (a331, r331), (a358, r358), (a380, r380)]), (23, [(a40, r40), (a65, r65), (a116, r116), (a131, r131), (a165, r165), (a192, r192), (a233, r233), (a258, r258), (a295, r295), (a334, r334), (a361, r361), (a383, r383)]), (53, [(a41, r41), (a66, r66)]), (87, [(a42, r42), (a48, r48), (a50, r50), (a132, r132), (a166, r166), (a193, r193), (a200, r200), (a235, r235), (a260, r260), (a297, r297)]), (207, [(a43, r43), (a195, r195), (a261, r261)]), (138, [(a44, r44), (a51, r51), (a196, r196), (a262, r262)]), (135, [(a46, r46), (a198, r198)]), (88, [(a47, r47), (a49, r49), (a58, r58), (a134, r134), (a168, r168), (a199, r199), (a201, r201), (a236, r236), (a264, r264), (a303, r303)]), (174, [(a52, r52), (a68, r68), (a118, r118), (a135, r135), (a169, r169), (a202, r202), (a237, r237), (a265, r265), (a298, r298)]), (136, [(a53, r53), (a57, r57), (a69, r69), (a72, r72), (a119, r119), (a122, r122), (a136, r136), (a139, r139), (a170, r170), (a173, r173), (a203, r203), (a206, r206), (a238, r238), (a241, r241), (a266, r266), (a269, r269), (a299, r299), (a302, r302)]), (165, [(a56, r56)]), (31, [(a75, r75), (a141, r141), (a175, r175), (a208, r208), (a243, r243)]), (180, [(a80, r80), (a144, r144)]), (109, [(a87, r87), (a181, r181)]), (71, [(a94, r94), (a108, r108), (a217, r217), (a252, r252), (a321, r321)]), (12, [(a96, r96), (a98, r98), (a152, r152), (a219, r219), (a280, r280), (a314, r314), (a346, r346), (a373, r373), (a395, r395)]), (14, [(a104, r104), (a105, r105), (a156, r156), (a223, r223), (a284, r284), (a318, r318), (a350, r350), (a377, r377)]), (17, [(a106, r106), (a157, r157), (a224, r224), (a285, r285), (a319, r319), (a351, r351), (a352, r352)]), (19, [(a107, r107), (a225, r225), (a320, r320)]), (113, [(a353, r353)]), (13, [(a378, r378)])]
theorem to2 : V.TblOk Tryz.prog t2 := (V.TblOk.cons (V.RowOk.cons h0 (V.RowOk.cons h5 (V.RowOk.cons h6 (V.RowOk.cons h74 (V.RowOk.cons h82 (V.RowOk.cons h89 (V.RowOk.cons h97 V.RowOk.nil))))))) (V.TblOk.cons (V.RowOk.cons h1 (V.RowOk.cons h3 (V.RowOk.cons h76 (V.RowOk.cons h78 (V.RowOk.cons h83 (V.RowOk.cons h85 (V.RowOk.cons h90 (V.RowOk.cons h92 (V.RowOk.cons h99 (V.RowOk.cons h101 (V.RowOk.cons h142 (V.RowOk.cons h146 (V.RowOk.cons h149 (V.RowOk.cons h153 (V.RowOk.cons h176 (V.RowOk.cons h179 (V.RowOk.cons h209 (V.RowOk.cons h212 (V.RowOk.cons h215 (V.RowOk.cons h220 (V.RowOk.cons h244 (V.RowOk.cons h247 (V.RowOk.cons h250 (V.RowOk.cons h271 (V.RowOk.cons h274 (V.RowOk.cons h277 (V.RowOk.cons h281 (V.RowOk.cons h305 (V.RowOk.cons h308 (V.RowOk.cons h311 (V.RowOk.cons h315 (V.RowOk.cons h337 (V.RowOk.cons h340 (V.RowOk.cons h343 (V.RowOk.cons h347 (V.RowOk.cons h364 (V.RowOk.cons h367 (V.RowOk.cons h370 (V.RowOk.cons h374 (V.RowOk.cons h386 (V.RowOk.cons h389 (V.RowOk.cons h392 (V.RowOk.cons h396 V.RowOk.nil))))))))))))))))))))))))))))))))))))))))))) (V.TblOk.cons (V.RowOk.cons h7 (V.RowOk.cons h124 (V.RowOk.cons h182 (V.RowOk.cons h323 V.RowOk.nil)))) (V.TblOk.cons (V.RowOk.cons h8 (V.RowOk.cons h324 (V.RowOk.cons h325 V.RowOk.nil))) (V.TblOk.cons (V.RowOk.cons h9 (V.RowOk.cons h326 V.RowOk.nil)) (V.TblOk.cons (V.RowOk.cons h15 (V.RowOk.cons h18 (V.RowOk.cons h20 (V.RowOk.cons h22 (V.RowOk.cons h24 (V.RowOk.cons h26 (V.RowOk.cons h28 (V.RowOk.cons h30 (V.RowOk.cons h32 (V.RowOk.cons h34 (V.RowOk.cons h36 (V.RowOk.cons h61 (V.RowOk.cons h127 (V.RowOk.cons h186 (V.RowOk.cons h188 (V.RowOk.cons h291 V.RowOk.nil)))))))))))))))) (V.TblOk.cons (V.RowOk.cons h16 (V.RowOk.cons h19 (V.RowOk.cons h21 (V.RowOk.cons h23 (V.RowOk.cons h25 (V.RowOk.cons h27 (V.RowOk.cons h29 (V.RowOk.cons h31 (V.RowOk.cons h33 (V.RowOk.cons h35 (V.RowOk.cons h37 (V.RowOk.cons h62 (V.RowOk.cons h128 (V.RowOk.cons h187 (V.RowOk.cons h189 (V.RowOk.cons h292 V.RowOk.nil)))))))))))))))) (V.TblOk.cons (V.RowOk.cons h17 (V.RowOk.cons h60 (V.RowOk.cons h113 (V.RowOk.cons h126 (V.RowOk.cons h162 (V.RowOk.cons h185 (V.RowOk.cons h230 (V.RowOk.cons h255 (V.RowOk.cons h290 (V.RowOk.cons h331 (V.RowOk.cons h358 (V.RowOk.cons h380 V.RowOk.nil)))))))))))) (V.TblOk.cons (V.RowOk.cons h40 (V.RowOk.cons h65 (V.RowOk.cons h116 (V.RowOk.cons h131 (V.RowOk.cons h165 (V.RowOk.cons h192 (V.RowOk.cons h233 (V.RowOk.cons h258 (V.RowOk.cons h295 (V.RowOk.cons h334 (V.RowOk.cons h361 (V.RowOk.cons h383 V.RowOk.nil)))))))))))) (V.TblOk.cons (V.RowOk.cons h41 (V.RowOk.cons h66 V.RowOk.nil)) (V.TblOk.cons (V.RowOk.cons h42 (V.RowOk.cons h48 (V.RowOk.cons h50 (V.RowOk.cons h132 (V.RowOk.cons h166 (V.RowOk.cons h193 (V.RowOk.cons h200 (V.RowOk.cons h235 (V.RowOk.cons h260 (V.RowOk.cons h297 V.RowOk.nil)))))))))) (V.TblOk.cons (V.RowOk.cons h43 (V.RowOk.cons h195 (V.RowOk.cons h261 V.RowOk.nil))) (V.TblOk.cons (V.RowOk.cons h44 (V.RowOk.cons h51 (V.RowOk.cons h196 (V.RowOk.cons h262 V.RowOk.nil)))) (V.TblOk.cons (V.RowOk.cons h46 (V.RowOk.cons h198 V.RowOk.nil)) (V.TblOk.cons (V.RowOk.cons h47 (V.RowOk.cons h49 (V.RowOk.cons h58 (V.RowOk.cons h134 (V.RowOk.cons h168 (V.RowOk.cons h199 (V.RowOk.cons h201 (V.RowOk.cons h236 (V.RowOk.cons h264 (V.RowOk.cons h303 V.RowOk.nil)))))))))) (V.TblOk.cons (V.RowOk.cons h52 (V.RowOk.cons h68 (V.RowOk.cons h118 (V.RowOk.cons h135 (V.RowOk.cons h169 (V.RowOk.cons h202 (V.RowOk.cons h237 (V.RowOk.cons h265 (V.RowOk.cons h298 V.RowOk.nil))))))))) (V.TblOk.cons (V.RowOk.cons h53 (V.RowOk.cons h57 (V.RowOk.cons h69 (V.RowOk.cons h72 (V.RowOk.cons h119 (V.RowOk.cons h122 (V.RowOk.cons h136 (V.RowOk.cons h139 (V.RowOk.cons h170 (V.RowOk.cons h173 (V.RowOk.cons h203 (V.RowOk.cons h206 (V.RowOk.cons h238 (V.RowOk.cons h241 (V.RowOk.cons h266 (V.RowOk.cons h269 (V.RowOk.cons h299 (V.RowOk.cons h302 V.RowOk.nil)))))))))))))))))) (V.TblOk.cons (V.RowOk.cons h56 V.RowOk.nil) (V.TblOk.cons (V.RowOk.cons h75 (V.RowOk.cons h141 (V.RowOk.cons h175 (V.RowOk.cons h208 (V.RowOk.cons h243 V.RowOk.nil))))) (V.TblOk.cons (V.RowOk.cons h80 (V.RowOk.cons h144 V.RowOk.nil)) (V.TblOk.cons (V.RowOk.cons h87 (V.RowOk.cons h181 V.RowOk.nil)) (V.TblOk.cons (V.RowOk.cons h94 (V.RowOk.cons h108 (V.RowOk.cons h217 (V.RowOk.cons h252 (V.RowOk.cons h321 V.RowOk.nil))))) (V.TblOk.cons (V.RowOk.cons h96 (V.RowOk.cons h98 (V.RowOk.cons h152 (V.RowOk.cons h219 (V.RowOk.cons h280 (V.RowOk.cons h314 (V.RowOk.cons h346 (V.RowOk.cons h373 (V.RowOk.cons h395 V.RowOk.nil))))))))) (V.TblOk.cons (V.RowOk.cons h104 (V.RowOk.cons h105 (V.RowOk.cons h156 (V.RowOk.cons h223 (V.RowOk.cons h284 (V.RowOk.cons h318 (V.RowOk.cons h350 (V.RowOk.cons h377 V.RowOk.nil)))))))) (V.TblOk.cons (V.RowOk.cons h106 (V.RowOk.cons h157 (V.RowOk.cons h224 (V.RowOk.cons h285 (V.RowOk.cons h319 (V.RowOk.cons h351 (V.RowOk.cons h352 V.RowOk.nil))))))) (V.TblOk.cons (V.RowOk.cons h107 (V.RowOk.cons h225 (V.RowOk.cons h320 V.RowOk.nil))) (V.TblOk.cons (V.RowOk.cons h353 V.RowOk.nil) (V.TblOk.cons (V.RowOk.cons h378 V.RowOk.nil) V.TblOk.nil))))))))))))))))))))))))))))
noncomputable def an2 : V.An := { io := fun f => [25,26,40,43,60,64,67,76,115,116,152,184,186,190,216,222,224,245,246,251,252,255,257,258,259,260,261,262,263,264,265].contains f, ownRes := fun f => [39,110,111].contains f, spec := V.inTbl t2, call := V.cloneOf clones }
theorem good2 : V.Good Tryz.prog an2 := ⟨named, V.spec_of_tbl to2, (fun _ _ _ _ h => nomatch h), V.call_clones cloneOk rfl⟩
set_option maxRecDepth 1000000 in
theorem e2 : V.ftells Tryz.prog an2 tab 400 63 a2 r2 = true := by kernel_rfl
theorem h2 : V.Holds Tryz.prog 63 a2 r2 := V.holds_of_ftells good2 regs follows (V.Shy.none rfl) tabOk e2
set_option maxRecDepth 1000000 in
theorem e4 : V.ftells Tryz.prog an2 tab 400 63 a4 r4 = true := by kernel_rfl
theorem h4 : V.Holds Tryz.prog 63 a4 r4 := V.holds_of_ftells good2 regs follows (V.Shy.none rfl) tabOk e4
set_option maxRecDepth 1000000 in
theorem e54 : V.ftells Tryz.prog an2 tab 400 132 a54 r54 = true := by kernel_rfl
theorem h54 : V.Holds Tryz.prog 132 a54 r54 := V.holds_of_ftells good2 regs follows (V.Shy.none rfl) tabOk e54
set_option maxRecDepth 1000000 in
theorem e79 : V.ftells Tryz.prog an2 tab 400 63 a79 r79 = true := by kernel_rfl
theorem h79 : V.Holds Tryz.prog 63 a79 r79 := V.holds_of_ftells good2 regs follows (V.Shy.none rfl) tabOk e79
set_option maxRecDepth 1000000 in
theorem e86 : V.ftells Tryz.prog an2 tab 400 63 a86 r86 = true := by kernel_rfl
theorem h86 : V.Holds Tryz.prog 63 a86 r86 := V.holds_of_ftells good2 regs follows (V.Shy.none rfl) tabOk e86
set_option maxRecDepth 1000000 in
theorem e93 : V.ftells Tryz.prog an2 tab 400 63 a93 r93 = true := by kernel_rfl
theorem h93 : V.Holds Tryz.prog 63 a93 r93 := V.holds_of_ftells good2 regs follows (V.Shy.none rfl) tabOk e93
set_option maxRecDepth 1000000 in
theorem e102 : V.ftells Tryz.prog an2 tab 400 63 a102 r102 = true := by kernel_rfl
theorem h102 : V.Holds Tryz.prog 63 a102 r102 := V.holds_of_ftells good2 regs follows (V.Shy.none rfl) tabOk e102
set_option maxRecDepth 1000000 in
theorem e109 : V.ftells Tryz.prog an2 tab 400 17 a109 r109 = true := by kernel_rfl
theorem h109 : V.Holds Tryz.prog 17 a109 r109 := V.holds_of_ftells good2 regs follows (V.Shy.none rfl) tabOk e109
set_option maxRecDepth 1000000 in
theorem e114 : V.ftells Tryz.prog an2 tab 400 49 a114 r114 = true := by kernel_rfl
theorem h114 : V.Holds Tryz.prog 49 a114 r114 := V.holds_of_ftells good2 regs follows (V.Shy.none rfl) tabOk e114
set_option maxRecDepth 1000000 in
theorem e117 : V.ftells Tryz.prog an2 tab 400 85 a117 r117 = true := by kernel_rfl
theorem h117 : V.Holds Tryz.prog 85 a117 r117 := V.holds_of_ftells good2 regs follows (V.Shy.none rfl) tabOk e117
set_option maxRecDepth 1000000 in
theorem e120 : V.ftells Tryz.prog an2 tab 400 132 a120 r120 = true := by kernel_rfl
theorem h120 : V.Holds Tryz.prog 132 a120 r120 := V.holds_of_ftells good2 regs follows (V.Shy.none rfl) tabOk e120
set_option maxRecDepth 1000000 in
theorem e143 : V.ftells Tryz.prog an2 tab 400 63 a143 r143 = true := by kernel_rfl
theorem h143 : V.Holds Tryz.prog 63 a143 r143 := V.holds_of_ftells good2 regs follows (V.Shy.none rfl) tabOk e143
set_option maxRecDepth 1000000 in
theorem e150 : V.ftells Tryz.prog an2 tab 400 63 a150 r150 = true := by kernel_rfl
theorem h150 : V.Holds Tryz.prog 63 a150 r150 := V.holds_of_ftells good2 regs follows (V.Shy.none rfl) tabOk e150
set_option maxRecDepth 1000000 in
theorem e163 : V.ftells Tryz.prog an2 tab 400 49 a163 r163 = true := by kernel_rfl
theorem h163 : V.Holds Tryz.prog 49 a163 r163 := V.holds_of_ftells good2 regs follows (V.Shy.none rfl) tabOk e163
set_option maxRecDepth 1000000 in
theorem e167 : V.ftells Tryz.prog an2 tab 400 85 a167 r167 = true := by kernel_rfl
theorem h167 : V.Holds Tryz.prog 85 a167 r167 := V.holds_of_ftells good2 regs follows (V.Shy.none rfl) tabOk e167
set_option maxRecDepth 1000000 in
theorem e171 : V.ftells Tryz.prog an2 tab 400 132 a171 r171 = true := by kernel_rfl
theorem h171 : V.Holds Tryz.prog 132 a171 r171 := V.holds_of_ftells good2 regs follows (V.Shy.none rfl) tabOk e171
set_option maxRecDepth 1000000 in
theorem e177 : V.ftells Tryz.prog an2 tab 400 63 a177 r177 = true := by kernel_rfl
theorem h177 : V.Holds Tryz.prog 63 a177 r177 := V.holds_of_ftells good2 regs follows (V.Shy.none rfl) tabOk e177
set_option maxRecDepth 1000000 in
theorem e190 : V.ftells Tryz.prog an2 tab 400 49 a190 r190 = true := by kernel_rfl
theorem h190 : V.Holds Tryz.prog 49 a190 r190 := V.holds_of_ftells good2 regs follows (V.Shy.none rfl) tabOk e190
set_option maxRecDepth 1000000 in
theorem e210 : V.ftells Tryz.prog an2 tab 400 63 a210 r210 = true := by kernel_rfl
theorem h210 : V.Holds Tryz.prog 63 a210 r210 := V.holds_of_ftells good2 regs follows (V.Shy.none rfl) tabOk e210
set_option maxRecDepth 1000000 in
theorem e216 : V.ftells Tryz.prog an2 tab 400 63 a216 r216 = true := by kernel_rfl
theorem h216 : V.Holds Tryz.prog 63 a216 r216 := V.holds_of_ftells good2 regs follows (V.Shy.none rfl) tabOk e216
set_option maxRecDepth 1000000 in
theorem e234 : V.ftells Tryz.prog an2 tab 400 85 a234 r234 = true := by kernel_rfl
theorem h234 : V.Holds Tryz.prog 85 a234 r234 := V.holds_of_ftells good2 regs follows (V.Shy.none rfl) tabOk e234
set_option maxRecDepth 1000000 in
theorem e239 : V.ftells Tryz.prog an2 tab 400 132 a239 r239 = true := by kernel_rfl
theorem h239 : V.Holds Tryz.prog 132 a239 r239 := V.holds_of_ftells good2 regs follows (V.Shy.none rfl) tabOk e239
set_option maxRecDepth 1000000 in
theorem e245 : V.ftells Tryz.prog an2 tab 400 63 a245 r245 = true := by kernel_rfl
theorem h245 : V.Holds Tryz.prog 63 a245 r245 := V.holds_of_ftells good2 regs follows (V.Shy.none rfl) tabOk e245
set_option maxRecDepth 1000000 in
theorem e251 : V.ftells Tryz.prog an2 tab 400 63 a251 r251 = true := by kernel_rfl
theorem h251 : V.Holds Tryz.prog 63 a251 r251 := V.holds_of_ftells good2 regs follows (V.Shy.none rfl) tabOk e251
set_option maxRecDepth 1000000 in
theorem e256 : V.ftells Tryz.prog an2 tab 400 49 a256 r256 = true := by kernel_rfl
theorem h256 : V.Holds Tryz.prog 49 a256 r256 := V.holds_of_ftells good2 regs follows (V.Shy.none rfl) tabOk e256
set_option maxRecDepth 1000000 in
theorem e275 : V.ftells Tryz.prog an2 tab 400 63 a275 r275 = true := by kernel_rfl
theorem h275 : V.Holds Tryz.prog 63 a275 r275 := V.holds_of_ftells good2 regs follows (V.Shy.none rfl) tabOk e275
set_option maxRecDepth 1000000 in
theorem e282 : V.ftells Tryz.prog an2 tab 400 63 a282 r282 = true := by kernel_rfl
theorem h282 : V.Holds Tryz.prog 63 a282 r282 := V.holds_of_ftells good2 regs follows (V.Shy.none rfl) tabOk e282
set_option maxRecDepth 1000000 in
theorem e286 : V.ftells Tryz.prog an2 tab 400 18 a286 r286 = true := by kernel_rfl
theorem h286 : V.Holds Tryz.prog 18 a286 r286 := V.holds_of_ftells good2 regs follows (V.Shy.none rfl) tabOk e286
set_option maxRecDepth 1000000 in
theorem e296 : V.ftells Tryz.prog an2 tab 400 85 a296 r296 = true := by kernel_rfl
theorem h296 : V.Holds Tryz.prog 85 a296 r296 := V.holds_of_ftells good2 regs follows (V.Shy.none rfl) tabOk e296
set_option maxRecDepth 1000000 in
theorem e300 : V.ftells Tryz.prog an2 tab 400 132 a300 r300 = true := by kernel_rfl
theorem h300 : V.Holds Tryz.prog 132 a300 r300 := V.holds_of_ftells good2 regs follows (V.Shy.none rfl) tabOk e300
set_option maxRecDepth 1000000 in
theorem e309 : V.ftells Tryz.prog an2 tab 400 63 a309 r309 = true := by kernel_rfl
theorem h309 : V.Holds Tryz.prog 63 a309 r309 := V.holds_of_ftells good2 regs follows (V.Shy.none rfl) tabOk e309
set_option maxRecDepth 1000000 in
theorem e316 : V.ftells Tryz.prog an2 tab 400 63 a316 r316 = true := by kernel_rfl
theorem h316 : V.Holds Tryz.prog 63 a316 r316 := V.holds_of_ftells good2 regs follows (V.Shy.none rfl) tabOk e316
set_option maxRecDepth 1000000 in
theorem e322 : V.ftells Tryz.prog an2 tab 400 17 a322 r322 = true := by kernel_rfl
theorem h322 : V.Holds Tryz.prog 17 a322 r322 := V.holds_of_ftells good2 regs follows (V.Shy.none rfl) tabOk e322
set_option maxRecDepth 1000000 in
theorem e332 : V.ftells Tryz.prog an2 tab 400 49 a332 r332 = true := by kernel_rfl
theorem h332 : V.Holds Tryz.prog 49 a332 r332 := V.holds_of_ftells good2 regs follows (V.Shy.none rfl) tabOk e332
set_option maxRecDepth 1000000 in
theorem e341 : V.ftells Tryz.prog an2 tab 400 63 a341 r341 = true := by kernel_rfl
theorem h341 : V.Holds Tryz.prog 63 a341 r341 := V.holds_of_ftells good2 regs follows (V.Shy.none rfl) tabOk e341
set_option maxRecDepth 1000000 in
theorem e348 : V.ftells Tryz.prog an2 tab 400 63 a348 r348 = true := by kernel_rfl
theorem h348 : V.Holds Tryz.prog 63 a348 r348 := V.holds_of_ftells good2 regs follows (V.Shy.none rfl) tabOk e348
set_option maxRecDepth 1000000 in
theorem e359 : V.ftells Tryz.prog an2 tab 400 49 a359 r359 = true := by kernel_rfl
theorem h359 : V.Holds Tryz.prog 49 a359 r359 := V.holds_of_ftells good2 regs follows (V.Shy.none rfl) tabOk e359
set_option maxRecDepth 1000000 in
theorem e362 : V.ftells Tryz.prog an2 tab 400 85 a362 r362 = true := by kernel_rfl
theorem h362 : V.Holds Tryz.prog 85 a362 r362 := V.holds_of_ftells good2 regs follows (V.Shy.none rfl) tabOk e362
set_option maxRecDepth 1000000 in
theorem e368 : V.ftells Tryz.prog an2 tab 400 63 a368 r368 = true := by kernel_rfl
theorem h368 : V.Holds Tryz.prog 63 a368 r368 := V.holds_of_ftells good2 regs follows (V.Shy.none rfl) tabOk e368
set_option maxRecDepth 1000000 in
theorem e375 : V.ftells Tryz.prog an2 tab 400 63 a375 r375 = true := by kernel_rfl
theorem h375 : V.Holds Tryz.prog 63 a375 r375 := V.holds_of_ftells good2 regs follows (V.Shy.none rfl) tabOk e375
set_option maxRecDepth 1000000 in
theorem e390 : V.ftells Tryz.prog an2 tab 400 63 a390 r390 = true := by kernel_rfl
theorem h390 : V.Holds Tryz.prog 63 a390 r390 := V.holds_of_ftells good2 regs follows (V.Shy.none rfl) tabOk e390
set_option maxRecDepth 1000000 in
theorem e397 : V.ftells Tryz.prog an2 tab 400 63 a397 r397 = true := by kernel_rfl
theorem h397 : V.Holds Tryz.prog 63 a397 r397 := V.holds_of_ftells good2 regs follows (V.Shy.none rfl) tabOk e397
end Go.Proofs.YtillejiepbgkbaaGreat.Say
