/- Closed calls, level 3. -/
import Derived.Test.YtillejiepbgkbaaGreatSayT2a
import Derived.Test.YtillejiepbgkbaaGreatSayT2b
set_option linter.unusedVariables false
namespace Go.Proofs.YtillejiepbgkbaaGreat.Say
open Go Go.RowKit
open V (D)
noncomputable def t3 : V.Tbl := [(142, [(a0, r0), (a5, r5), (a6, r6), (a74, r74), (a82, r82), (a89, r89), (a97, r97)]), (100, [(a1, r1), (a3, r3), (a76, r76), (a78, r78), (a83, r83), (a85, r85), (a90, r90), (a92, r92), (a99, r99), (a101, r101), (a142, r142), (a146, r146), (a149, r149), (a153, r153), (a176, r176), (a179, r179), (a209, r209), (a212, r212), (a215, r215), (a220, r220), (a244, r244), (a247, r247), (a250, r250), (a271, r271), (a274, r274), (a277, r277), (a281, r281), (a305, r305), (a308, r308), (a311, r311), (a315, r315), (a337, r337), (a340, r340), (a343, r343), (a347, r347), (a364, r364), (a367, r367), (a370, r370), (a374, r374), (a386, r386), (a389, r389), (a392, r392), (a396, r396)]), (63, [(a2, r2), (a4, r4), (a77, r77), (a79, r79), (a84, r84), (a86, r86), (a91, r91), (a93, r93), (a100, r100), (a102, r102), (a143, r143), (a147, r147), (a150, r150), (a154, r154), (a177, r177), (a180, r180), (a210, r210), (a213, r213), (a216, r216), (a221, r221), (a245, r245), (a248, r248), (a251, r251), (a272, r272), (a275, r275), (a278, r278), (a282, r282), (a306, r306), (a309, r309), (a312, r312), (a316, r316), (a338, r338), (a341, r341), (a344, r344), (a348, r348), (a365, r365), (a368, r368), (a371, r371), (a375, r375), (a387, r387), (a390, r390), (a393, r393), (a397, r397)]), (29, [(a7, r7), (a124, r124), (a182, r182), (a323, r323)]), (189, [(a8, r8), (a324, r324), (a325, r325)]), (151, [(a9, r9), (a326, r326)]), (47, [(a15, r15), (a18, r18), (a20, r20), (a22, r22), (a24, r24), (a26, r26), (a28, r28), (a30, r30), (a32, r32), (a34, r34), (a36, r36), (a61, r61), (a127, r127), (a186, r186), (a188, r188), (a291, r291)]), (20, [(a16, r16), (a19, r19), (a21, r21), (a23, r23), (a25, r25), (a27, r27), (a29, r29), (a31, r31), (a33, r33), (a35, r35), (a37, r37), (a62, r62), (a128, r128), (a187, r187), (a189, r189), (a292, r292)]), (79, [(a17, r17), (a60, r60), (a113, r113), (a126, r126), (a162, r162), (a185, r185), (a230, r230), (a255, r255), (a290, r290), (a331, r331), (a358, r358), (a380, r380)]), (49, [(a38, r38), (a63, r63), (a114, r114), (a129, r129), (a163, r163), (a190, r190), (a231, r231), (a256, r256), (a293, r293), (a332, r332), (a359, r359), (a381, r381)]), (23, [(a40, r40), (a65, r65), (a116, r116), (a131, r131), (a165, r165), (a192, r192), (a233, r233), (a258, r258), (a295, r295), (a334, r334), (a361, r361), (a383, r383)]), (53, [(a41, r41), (a66, r66)]), (87, [(a42, r42), (a48, r48), (a50, r50), (a132, r132), (a166, r166), (a193, r193), (a200, r200), (a235, r235), (a260, r260), (a297, r297)]), (207, [(a43, r43), (a195, r195), (a261, r261)]), (138, [(a44, r44), (a51, r51), (a196, r196), (a262, r262)]), (85, [(a45, r45), (a67, r67), (a117, r117), (a133, r133), (a167, r167), (a194, r194), (a197, r197), (a234, r234), (a259, r259), (a263, r263), (a296, r296), (a335, r335), (a362, r362), (a384, r384)]), (135, [(a46, r46), (a198, r198)]), (88, [(a47, r47), (a49, r49), (a58, r58), (a134, r134), (a168, r168), (a199, r199), (a201, r201), (a236, r236), (a264, r264), (a303, r303)]), (174, [(a52, r52), (a68, r68), (a118, r118), (a135, r135), (a169, r169), (a202, r202), (a237, r237), (a265, r265), (a298, r298)]), (136, [(a53, r53), (a57, r57), (a69, r69), (a72, r72), (a119, r119), (a122, r122), (a136, r136), (a139, r139), (a170, r170), (a173, r173), (a203, r203), (a206, r206), (a238, r238), (a241, r241), (a266, r266), (a269, r269), (a299, r299), (a302, r302)]), (132, [(a54, r54), (a70, r70), (a120, r120), (a137, r137), (a171, r171), (a204, r204), (a239, r239), (a267, r267), (a300, r300)]), (165, [(a56, r56)]), (31, [(a75, r75), (a141, r141), (a175, r175), (a208, r208), (a243, r243)]), (180, [(a80, r80), (a144, r144)]), (109, [(a87, r87), (a181, r181)]), (71, [(a94, r94), (a108, r108), (a217, r217), (a252, r252), (a321, r321)]), (12, [(a96, r96), (a98, r98), (a152, r152), (a219, r219), (a280, r280), (a314, r314), (a346, r346), (a373, r373), (a395, r395)]), (14, [(a104, r104), (a105, r105), (a156, r156), (a223, r223), (a284, r284), (a318, r318), (a350, r350), (a377, r377)]), (17, [(a106, r106), (a109, r109), (a157, r157), (a158, r158), (a224, r224), (a226, r226), (a285, r285), (a319, r319), (a322, r322), (a351, r351), (a352, r352)]), (19, [(a107, r107), (a225, r225), (a320, r320)]), (6, [(a125, r125), (a400, r400)]), (18, [(a286, r286), (a327, r327), (a354, r354)]), (113, [(a353, r353)]), (13, [(a378, r378)])]
theorem to3 : V.TblOk Tryz.prog t3 := (V.TblOk.cons (V.RowOk.cons h0 (V.RowOk.cons h5 (V.RowOk.cons h6 (V.RowOk.cons h74 (V.RowOk.cons h82 (V.RowOk.cons h89 (V.RowOk.cons h97 V.RowOk.nil))))))) (V.TblOk.cons (V.RowOk.cons h1 (V.RowOk.cons h3 (V.RowOk.cons h76 (V.RowOk.cons h78 (V.RowOk.cons h83 (V.RowOk.cons h85 (V.RowOk.cons h90 (V.RowOk.cons h92 (V.RowOk.cons h99 (V.RowOk.cons h101 (V.RowOk.cons h142 (V.RowOk.cons h146 (V.RowOk.cons h149 (V.RowOk.cons h153 (V.RowOk.cons h176 (V.RowOk.cons h179 (V.RowOk.cons h209 (V.RowOk.cons h212 (V.RowOk.cons h215 (V.RowOk.cons h220 (V.RowOk.cons h244 (V.RowOk.cons h247 (V.RowOk.cons h250 (V.RowOk.cons h271 (V.RowOk.cons h274 (V.RowOk.cons h277 (V.RowOk.cons h281 (V.RowOk.cons h305 (V.RowOk.cons h308 (V.RowOk.cons h311 (V.RowOk.cons h315 (V.RowOk.cons h337 (V.RowOk.cons h340 (V.RowOk.cons h343 (V.RowOk.cons h347 (V.RowOk.cons h364 (V.RowOk.cons h367 (V.RowOk.cons h370 (V.RowOk.cons h374 (V.RowOk.cons h386 (V.RowOk.cons h389 (V.RowOk.cons h392 (V.RowOk.cons h396 V.RowOk.nil))))))))))))))))))))))))))))))))))))))))))) (V.TblOk.cons (V.RowOk.cons h2 (V.RowOk.cons h4 (V.RowOk.cons h77 (V.RowOk.cons h79 (V.RowOk.cons h84 (V.RowOk.cons h86 (V.RowOk.cons h91 (V.RowOk.cons h93 (V.RowOk.cons h100 (V.RowOk.cons h102 (V.RowOk.cons h143 (V.RowOk.cons h147 (V.RowOk.cons h150 (V.RowOk.cons h154 (V.RowOk.cons h177 (V.RowOk.cons h180 (V.RowOk.cons h210 (V.RowOk.cons h213 (V.RowOk.cons h216 (V.RowOk.cons h221 (V.RowOk.cons h245 (V.RowOk.cons h248 (V.RowOk.cons h251 (V.RowOk.cons h272 (V.RowOk.cons h275 (V.RowOk.cons h278 (V.RowOk.cons h282 (V.RowOk.cons h306 (V.RowOk.cons h309 (V.RowOk.cons h312 (V.RowOk.cons h316 (V.RowOk.cons h338 (V.RowOk.cons h341 (V.RowOk.cons h344 (V.RowOk.cons h348 (V.RowOk.cons h365 (V.RowOk.cons h368 (V.RowOk.cons h371 (V.RowOk.cons h375 (V.RowOk.cons h387 (V.RowOk.cons h390 (V.RowOk.cons h393 (V.RowOk.cons h397 V.RowOk.nil))))))))))))))))))))))))))))))))))))))))))) (V.TblOk.cons (V.RowOk.cons h7 (V.RowOk.cons h124 (V.RowOk.cons h182 (V.RowOk.cons h323 V.RowOk.nil)))) (V.TblOk.cons (V.RowOk.cons h8 (V.RowOk.cons h324 (V.RowOk.cons h325 V.RowOk.nil))) (V.TblOk.cons (V.RowOk.cons h9 (V.RowOk.cons h326 V.RowOk.nil)) (V.TblOk.cons (V.RowOk.cons h15 (V.RowOk.cons h18 (V.RowOk.cons h20 (V.RowOk.cons h22 (V.RowOk.cons h24 (V.RowOk.cons h26 (V.RowOk.cons h28 (V.RowOk.cons h30 (V.RowOk.cons h32 (V.RowOk.cons h34 (V.RowOk.cons h36 (V.RowOk.cons h61 (V.RowOk.cons h127 (V.RowOk.cons h186 (V.RowOk.cons h188 (V.RowOk.cons h291 V.RowOk.nil)))))))))))))))) (V.TblOk.cons (V.RowOk.cons h16 (V.RowOk.cons h19 (V.RowOk.cons h21 (V.RowOk.cons h23 (V.RowOk.cons h25 (V.RowOk.cons h27 (V.RowOk.cons h29 (V.RowOk.cons h31 (V.RowOk.cons h33 (V.RowOk.cons h35 (V.RowOk.cons h37 (V.RowOk.cons h62 (V.RowOk.cons h128 (V.RowOk.cons h187 (V.RowOk.cons h189 (V.RowOk.cons h292 V.RowOk.nil)))))))))))))))) (V.TblOk.cons (V.RowOk.cons h17 (V.RowOk.cons h60 (V.RowOk.cons h113 (V.RowOk.cons h126 (V.RowOk.cons h162 (V.RowOk.cons h185 (V.RowOk.cons h230 (V.RowOk.cons h255 (V.RowOk.cons h290 (V.RowOk.cons h331 (V.RowOk.cons h358 (V.RowOk.cons h380 V.RowOk.nil)))))))))))) (V.TblOk.cons (V.RowOk.cons h38 (V.RowOk.cons h63 (V.RowOk.cons h114 (V.RowOk.cons h129 (V.RowOk.cons h163 (V.RowOk.cons h190 (V.RowOk.cons h231 (V.RowOk.cons h256 (V.RowOk.cons h293 (V.RowOk.cons h332 (V.RowOk.cons h359 (V.RowOk.cons h381 V.RowOk.nil)))))))))))) (V.TblOk.cons (V.RowOk.cons h40 (V.RowOk.cons h65 (V.RowOk.cons h116 (V.RowOk.cons h131 (V.RowOk.cons h165 (V.RowOk.cons h192 (V.RowOk.cons h233 (V.RowOk.cons h258 (V.RowOk.cons h295 (V.RowOk.cons h334 (V.RowOk.cons h361 (V.RowOk.cons h383 V.RowOk.nil)))))))))))) (V.TblOk.cons (V.RowOk.cons h41 (V.RowOk.cons h66 V.RowOk.nil)) (V.TblOk.cons (V.RowOk.cons h42 (V.RowOk.cons h48 (V.RowOk.cons h50 (V.RowOk.cons h132 (V.RowOk.cons h166 (V.RowOk.cons h193 (V.RowOk.cons h200 (V.RowOk.cons h235 (V.RowOk.cons h260 (V.RowOk.cons h297 V.RowOk.nil)))))))))) (V.TblOk.cons (V.RowOk.cons h43 (V.RowOk.cons h195 (V.RowOk.cons h261 V.RowOk.nil))) (V.TblOk.cons (V.RowOk.cons h44 (V.RowOk.cons h51 (V.RowOk.cons h196 (V.RowOk.cons h262 V.RowOk.nil)))) (V.TblOk.cons (V.RowOk.cons h45 (V.RowOk.cons h67 (V.RowOk.cons h117 (V.RowOk.cons h133 (V.RowOk.cons h167 (V.RowOk.cons h194 (V.RowOk.cons h197 (V.RowOk.cons h234 (V.RowOk.cons h259 (V.RowOk.cons h263 (V.RowOk.cons h296 (V.RowOk.cons h335 (V.RowOk.cons h362 (V.RowOk.cons h384 V.RowOk.nil)))))))))))))) (V.TblOk.cons (V.RowOk.cons h46 (V.RowOk.cons h198 V.RowOk.nil)) (V.TblOk.cons (V.RowOk.cons h47 (V.RowOk.cons h49 (V.RowOk.cons h58 (V.RowOk.cons h134 (V.RowOk.cons h168 (V.RowOk.cons h199 (V.RowOk.cons h201 (V.RowOk.cons h236 (V.RowOk.cons h264 (V.RowOk.cons h303 V.RowOk.nil)))))))))) (V.TblOk.cons (V.RowOk.cons h52 (V.RowOk.cons h68 (V.RowOk.cons h118 (V.RowOk.cons h135 (V.RowOk.cons h169 (V.RowOk.cons h202 (V.RowOk.cons h237 (V.RowOk.cons h265 (V.RowOk.cons h298 V.RowOk.nil))))))))) (V.TblOk.cons (V.RowOk.cons h53 (V.RowOk.cons h57 (V.RowOk.cons h69 (V.RowOk.cons h72 (V.RowOk.cons h119 (V.RowOk.cons h122 (V.RowOk.cons h136 (V.RowOk.cons h139 (V.RowOk.cons h170 (V.RowOk.cons h173 (V.RowOk.cons h203 (V.RowOk.cons h206 (V.RowOk.cons h238 (V.RowOk.cons h241 (V.RowOk.cons h266 (V.RowOk.cons h269 (V.RowOk.cons h299 (V.RowOk.cons h302 V.RowOk.nil)))))))))))))))))) (V.TblOk.cons (V.RowOk.cons h54 (V.RowOk.cons h70 (V.RowOk.cons h120 (V.RowOk.cons h137 (V.RowOk.cons h171 (V.RowOk.cons h204 (V.RowOk.cons h239 (V.RowOk.cons h267 (V.RowOk.cons h300 V.RowOk.nil))))))))) (V.TblOk.cons (V.RowOk.cons h56 V.RowOk.nil) (V.TblOk.cons (V.RowOk.cons h75 (V.RowOk.cons h141 (V.RowOk.cons h175 (V.RowOk.cons h208 (V.RowOk.cons h243 V.RowOk.nil))))) (V.TblOk.cons (V.RowOk.cons h80 (V.RowOk.cons h144 V.RowOk.nil)) (V.TblOk.cons (V.RowOk.cons h87 (V.RowOk.cons h181 V.RowOk.nil)) (V.TblOk.cons (V.RowOk.cons h94 (V.RowOk.cons h108 (V.RowOk.cons h217 (V.RowOk.cons h252 (V.RowOk.cons h321 V.RowOk.nil))))) (V.TblOk.cons (V.RowOk.cons h96 (V.RowOk.cons h98 (V.RowOk.cons h152 (V.RowOk.cons h219 (V.RowOk.cons h280 (V.RowOk.cons h314 (V.RowOk.cons h346 (V.RowOk.cons h373 (V.RowOk.cons h395 V.RowOk.nil))))))))) (V.TblOk.cons (V.RowOk.cons h104 (V.RowOk.cons h105 (V.RowOk.cons h156 (V.RowOk.cons h223 (V.RowOk.cons h284 (V.RowOk.cons h318 (V.RowOk.cons h350 (V.RowOk.cons h377 V.RowOk.nil)))))))) (V.TblOk.cons (V.RowOk.cons h106 (V.RowOk.cons h109 (V.RowOk.cons h157 (V.RowOk.cons h158 (V.RowOk.cons h224 (V.RowOk.cons h226 (V.RowOk.cons h285 (V.RowOk.cons h319 (V.RowOk.cons h322 (V.RowOk.cons h351 (V.RowOk.cons h352 V.RowOk.nil))))))))))) (V.TblOk.cons (V.RowOk.cons h107 (V.RowOk.cons h225 (V.RowOk.cons h320 V.RowOk.nil))) (V.TblOk.cons (V.RowOk.cons h125 (V.RowOk.cons h400 V.RowOk.nil)) (V.TblOk.cons (V.RowOk.cons h286 (V.RowOk.cons h327 (V.RowOk.cons h354 V.RowOk.nil))) (V.TblOk.cons (V.RowOk.cons h353 V.RowOk.nil) (V.TblOk.cons (V.RowOk.cons h378 V.RowOk.nil) V.TblOk.nil))))))))))))))))))))))))))))))))))
noncomputable def an3 : V.An := { io := fun f => [25,26,40,43,60,64,67,76,115,116,152,184,186,190,216,222,224,245,246,251,252,255,257,258,259,260,261,262,263,264,265].contains f, ownRes := fun f => [39,110,111].contains f, spec := V.inTbl t3, call := V.cloneOf clones }
theorem good3 : V.Good Tryz.prog an3 := ⟨named, V.spec_of_tbl to3, (fun _ _ _ _ h => nomatch h), V.call_clones cloneOk rfl⟩
set_option maxRecDepth 1000000 in
theorem e10 : V.ftells Tryz.prog an3 tab 400 30 a10 r10 = true := by kernel_rfl
theorem h10 : V.Holds Tryz.prog 30 a10 r10 := V.holds_of_ftells good3 regs follows (V.Shy.none rfl) tabOk e10
set_option maxRecDepth 1000000 in
theorem e12 : V.ftells Tryz.prog an3 tab 400 30 a12 r12 = true := by kernel_rfl
theorem h12 : V.Holds Tryz.prog 30 a12 r12 := V.holds_of_ftells good3 regs follows (V.Shy.none rfl) tabOk e12
set_option maxRecDepth 1000000 in
theorem e39 : V.ftells Tryz.prog an3 tab 400 8 a39 r39 = true := by kernel_rfl
theorem h39 : V.Holds Tryz.prog 8 a39 r39 := V.holds_of_ftells good3 regs follows (V.Shy.none rfl) tabOk e39
set_option maxRecDepth 1000000 in
theorem e55 : V.ftells Tryz.prog an3 tab 400 85 a55 r55 = true := by kernel_rfl
theorem h55 : V.Holds Tryz.prog 85 a55 r55 := V.holds_of_ftells good3 regs follows (V.Shy.none rfl) tabOk e55
set_option maxRecDepth 1000000 in
theorem e64 : V.ftells Tryz.prog an3 tab 400 8 a64 r64 = true := by kernel_rfl
theorem h64 : V.Holds Tryz.prog 8 a64 r64 := V.holds_of_ftells good3 regs follows (V.Shy.none rfl) tabOk e64
set_option maxRecDepth 1000000 in
theorem e71 : V.ftells Tryz.prog an3 tab 400 85 a71 r71 = true := by kernel_rfl
theorem h71 : V.Holds Tryz.prog 85 a71 r71 := V.holds_of_ftells good3 regs follows (V.Shy.none rfl) tabOk e71
set_option maxRecDepth 1000000 in
theorem e81 : V.ftells Tryz.prog an3 tab 400 30 a81 r81 = true := by kernel_rfl
theorem h81 : V.Holds Tryz.prog 30 a81 r81 := V.holds_of_ftells good3 regs follows (V.Shy.none rfl) tabOk e81
set_option maxRecDepth 1000000 in
theorem e88 : V.ftells Tryz.prog an3 tab 400 30 a88 r88 = true := by kernel_rfl
theorem h88 : V.Holds Tryz.prog 30 a88 r88 := V.holds_of_ftells good3 regs follows (V.Shy.none rfl) tabOk e88
set_option maxRecDepth 1000000 in
theorem e95 : V.ftells Tryz.prog an3 tab 400 30 a95 r95 = true := by kernel_rfl
theorem h95 : V.Holds Tryz.prog 30 a95 r95 := V.holds_of_ftells good3 regs follows (V.Shy.none rfl) tabOk e95
set_option maxRecDepth 1000000 in
theorem e103 : V.ftells Tryz.prog an3 tab 400 30 a103 r103 = true := by kernel_rfl
theorem h103 : V.Holds Tryz.prog 30 a103 r103 := V.holds_of_ftells good3 regs follows (V.Shy.none rfl) tabOk e103
set_option maxRecDepth 1000000 in
theorem e110 : V.ftells Tryz.prog an3 tab 400 7 a110 r110 = true := by kernel_rfl
theorem h110 : V.Holds Tryz.prog 7 a110 r110 := V.holds_of_ftells good3 regs follows (V.Shy.none rfl) tabOk e110
set_option maxRecDepth 1000000 in
theorem e115 : V.ftells Tryz.prog an3 tab 400 8 a115 r115 = true := by kernel_rfl
theorem h115 : V.Holds Tryz.prog 8 a115 r115 := V.holds_of_ftells good3 regs follows (V.Shy.none rfl) tabOk e115
set_option maxRecDepth 1000000 in
theorem e121 : V.ftells Tryz.prog an3 tab 400 85 a121 r121 = true := by kernel_rfl
theorem h121 : V.Holds Tryz.prog 85 a121 r121 := V.holds_of_ftells good3 regs follows (V.Shy.none rfl) tabOk e121
set_option maxRecDepth 1000000 in
theorem e130 : V.ftells Tryz.prog an3 tab 400 8 a130 r130 = true := by kernel_rfl
theorem h130 : V.Holds Tryz.prog 8 a130 r130 := V.holds_of_ftells good3 regs follows (V.Shy.none rfl) tabOk e130
set_option maxRecDepth 1000000 in
theorem e138 : V.ftells Tryz.prog an3 tab 400 85 a138 r138 = true := by kernel_rfl
theorem h138 : V.Holds Tryz.prog 85 a138 r138 := V.holds_of_ftells good3 regs follows (V.Shy.none rfl) tabOk e138
set_option maxRecDepth 1000000 in
theorem e145 : V.ftells Tryz.prog an3 tab 400 30 a145 r145 = true := by kernel_rfl
theorem h145 : V.Holds Tryz.prog 30 a145 r145 := V.holds_of_ftells good3 regs follows (V.Shy.none rfl) tabOk e145
set_option maxRecDepth 1000000 in
theorem e148 : V.ftells Tryz.prog an3 tab 400 30 a148 r148 = true := by kernel_rfl
theorem h148 : V.Holds Tryz.prog 30 a148 r148 := V.holds_of_ftells good3 regs follows (V.Shy.none rfl) tabOk e148
set_option maxRecDepth 1000000 in
theorem e151 : V.ftells Tryz.prog an3 tab 400 30 a151 r151 = true := by kernel_rfl
theorem h151 : V.Holds Tryz.prog 30 a151 r151 := V.holds_of_ftells good3 regs follows (V.Shy.none rfl) tabOk e151
set_option maxRecDepth 1000000 in
theorem e155 : V.ftells Tryz.prog an3 tab 400 30 a155 r155 = true := by kernel_rfl
theorem h155 : V.Holds Tryz.prog 30 a155 r155 := V.holds_of_ftells good3 regs follows (V.Shy.none rfl) tabOk e155
set_option maxRecDepth 1000000 in
theorem e159 : V.ftells Tryz.prog an3 tab 400 7 a159 r159 = true := by kernel_rfl
theorem h159 : V.Holds Tryz.prog 7 a159 r159 := V.holds_of_ftells good3 regs follows (V.Shy.none rfl) tabOk e159
set_option maxRecDepth 1000000 in
theorem e164 : V.ftells Tryz.prog an3 tab 400 8 a164 r164 = true := by kernel_rfl
theorem h164 : V.Holds Tryz.prog 8 a164 r164 := V.holds_of_ftells good3 regs follows (V.Shy.none rfl) tabOk e164
set_option maxRecDepth 1000000 in
theorem e172 : V.ftells Tryz.prog an3 tab 400 85 a172 r172 = true := by kernel_rfl
theorem h172 : V.Holds Tryz.prog 85 a172 r172 := V.holds_of_ftells good3 regs follows (V.Shy.none rfl) tabOk e172
set_option maxRecDepth 1000000 in
theorem e178 : V.ftells Tryz.prog an3 tab 400 30 a178 r178 = true := by kernel_rfl
theorem h178 : V.Holds Tryz.prog 30 a178 r178 := V.holds_of_ftells good3 regs follows (V.Shy.none rfl) tabOk e178
set_option maxRecDepth 1000000 in
theorem e183 : V.ftells Tryz.prog an3 tab 400 30 a183 r183 = true := by kernel_rfl
theorem h183 : V.Holds Tryz.prog 30 a183 r183 := V.holds_of_ftells good3 regs follows (V.Shy.none rfl) tabOk e183
set_option maxRecDepth 1000000 in
theorem e191 : V.ftells Tryz.prog an3 tab 400 8 a191 r191 = true := by kernel_rfl
theorem h191 : V.Holds Tryz.prog 8 a191 r191 := V.holds_of_ftells good3 regs follows (V.Shy.none rfl) tabOk e191
set_option maxRecDepth 1000000 in
theorem e205 : V.ftells Tryz.prog an3 tab 400 85 a205 r205 = true := by kernel_rfl
theorem h205 : V.Holds Tryz.prog 85 a205 r205 := V.holds_of_ftells good3 regs follows (V.Shy.none rfl) tabOk e205
set_option maxRecDepth 1000000 in
theorem e211 : V.ftells Tryz.prog an3 tab 400 30 a211 r211 = true := by kernel_rfl
theorem h211 : V.Holds Tryz.prog 30 a211 r211 := V.holds_of_ftells good3 regs follows (V.Shy.none rfl) tabOk e211
set_option maxRecDepth 1000000 in
theorem e214 : V.ftells Tryz.prog an3 tab 400 30 a214 r214 = true := by kernel_rfl
theorem h214 : V.Holds Tryz.prog 30 a214 r214 := V.holds_of_ftells good3 regs follows (V.Shy.none rfl) tabOk e214
set_option maxRecDepth 1000000 in
theorem e218 : V.ftells Tryz.prog an3 tab 400 30 a218 r218 = true := by kernel_rfl
theorem h218 : V.Holds Tryz.prog 30 a218 r218 := V.holds_of_ftells good3 regs follows (V.Shy.none rfl) tabOk e218
set_option maxRecDepth 1000000 in
theorem e222 : V.ftells Tryz.prog an3 tab 400 30 a222 r222 = true := by kernel_rfl
theorem h222 : V.Holds Tryz.prog 30 a222 r222 := V.holds_of_ftells good3 regs follows (V.Shy.none rfl) tabOk e222
set_option maxRecDepth 1000000 in
theorem e227 : V.ftells Tryz.prog an3 tab 400 7 a227 r227 = true := by kernel_rfl
theorem h227 : V.Holds Tryz.prog 7 a227 r227 := V.holds_of_ftells good3 regs follows (V.Shy.none rfl) tabOk e227
set_option maxRecDepth 1000000 in
theorem e232 : V.ftells Tryz.prog an3 tab 400 8 a232 r232 = true := by kernel_rfl
theorem h232 : V.Holds Tryz.prog 8 a232 r232 := V.holds_of_ftells good3 regs follows (V.Shy.none rfl) tabOk e232
set_option maxRecDepth 1000000 in
theorem e240 : V.ftells Tryz.prog an3 tab 400 85 a240 r240 = true := by kernel_rfl
theorem h240 : V.Holds Tryz.prog 85 a240 r240 := V.holds_of_ftells good3 regs follows (V.Shy.none rfl) tabOk e240
set_option maxRecDepth 1000000 in
theorem e246 : V.ftells Tryz.prog an3 tab 400 30 a246 r246 = true := by kernel_rfl
theorem h246 : V.Holds Tryz.prog 30 a246 r246 := V.holds_of_ftells good3 regs follows (V.Shy.none rfl) tabOk e246
set_option maxRecDepth 1000000 in
theorem e249 : V.ftells Tryz.prog an3 tab 400 30 a249 r249 = true := by kernel_rfl
theorem h249 : V.Holds Tryz.prog 30 a249 r249 := V.holds_of_ftells good3 regs follows (V.Shy.none rfl) tabOk e249
set_option maxRecDepth 1000000 in
theorem e253 : V.ftells Tryz.prog an3 tab 400 30 a253 r253 = true := by kernel_rfl
theorem h253 : V.Holds Tryz.prog 30 a253 r253 := V.holds_of_ftells good3 regs follows (V.Shy.none rfl) tabOk e253
set_option maxRecDepth 1000000 in
theorem e257 : V.ftells Tryz.prog an3 tab 400 8 a257 r257 = true := by kernel_rfl
theorem h257 : V.Holds Tryz.prog 8 a257 r257 := V.holds_of_ftells good3 regs follows (V.Shy.none rfl) tabOk e257
set_option maxRecDepth 1000000 in
theorem e268 : V.ftells Tryz.prog an3 tab 400 85 a268 r268 = true := by kernel_rfl
theorem h268 : V.Holds Tryz.prog 85 a268 r268 := V.holds_of_ftells good3 regs follows (V.Shy.none rfl) tabOk e268
set_option maxRecDepth 1000000 in
theorem e273 : V.ftells Tryz.prog an3 tab 400 30 a273 r273 = true := by kernel_rfl
theorem h273 : V.Holds Tryz.prog 30 a273 r273 := V.holds_of_ftells good3 regs follows (V.Shy.none rfl) tabOk e273
set_option maxRecDepth 1000000 in
theorem e276 : V.ftells Tryz.prog an3 tab 400 30 a276 r276 = true := by kernel_rfl
theorem h276 : V.Holds Tryz.prog 30 a276 r276 := V.holds_of_ftells good3 regs follows (V.Shy.none rfl) tabOk e276
set_option maxRecDepth 1000000 in
theorem e279 : V.ftells Tryz.prog an3 tab 400 30 a279 r279 = true := by kernel_rfl
theorem h279 : V.Holds Tryz.prog 30 a279 r279 := V.holds_of_ftells good3 regs follows (V.Shy.none rfl) tabOk e279
set_option maxRecDepth 1000000 in
theorem e283 : V.ftells Tryz.prog an3 tab 400 30 a283 r283 = true := by kernel_rfl
theorem h283 : V.Holds Tryz.prog 30 a283 r283 := V.holds_of_ftells good3 regs follows (V.Shy.none rfl) tabOk e283
set_option maxRecDepth 1000000 in
theorem e287 : V.ftells Tryz.prog an3 tab 400 7 a287 r287 = true := by kernel_rfl
theorem h287 : V.Holds Tryz.prog 7 a287 r287 := V.holds_of_ftells good3 regs follows (V.Shy.none rfl) tabOk e287
set_option maxRecDepth 1000000 in
theorem e294 : V.ftells Tryz.prog an3 tab 400 8 a294 r294 = true := by kernel_rfl
theorem h294 : V.Holds Tryz.prog 8 a294 r294 := V.holds_of_ftells good3 regs follows (V.Shy.none rfl) tabOk e294
set_option maxRecDepth 1000000 in
theorem e301 : V.ftells Tryz.prog an3 tab 400 85 a301 r301 = true := by kernel_rfl
theorem h301 : V.Holds Tryz.prog 85 a301 r301 := V.holds_of_ftells good3 regs follows (V.Shy.none rfl) tabOk e301
set_option maxRecDepth 1000000 in
theorem e307 : V.ftells Tryz.prog an3 tab 400 30 a307 r307 = true := by kernel_rfl
theorem h307 : V.Holds Tryz.prog 30 a307 r307 := V.holds_of_ftells good3 regs follows (V.Shy.none rfl) tabOk e307
set_option maxRecDepth 1000000 in
theorem e310 : V.ftells Tryz.prog an3 tab 400 30 a310 r310 = true := by kernel_rfl
theorem h310 : V.Holds Tryz.prog 30 a310 r310 := V.holds_of_ftells good3 regs follows (V.Shy.none rfl) tabOk e310
set_option maxRecDepth 1000000 in
theorem e313 : V.ftells Tryz.prog an3 tab 400 30 a313 r313 = true := by kernel_rfl
theorem h313 : V.Holds Tryz.prog 30 a313 r313 := V.holds_of_ftells good3 regs follows (V.Shy.none rfl) tabOk e313
set_option maxRecDepth 1000000 in
theorem e317 : V.ftells Tryz.prog an3 tab 400 30 a317 r317 = true := by kernel_rfl
theorem h317 : V.Holds Tryz.prog 30 a317 r317 := V.holds_of_ftells good3 regs follows (V.Shy.none rfl) tabOk e317
set_option maxRecDepth 1000000 in
theorem e328 : V.ftells Tryz.prog an3 tab 400 7 a328 r328 = true := by kernel_rfl
theorem h328 : V.Holds Tryz.prog 7 a328 r328 := V.holds_of_ftells good3 regs follows (V.Shy.none rfl) tabOk e328
set_option maxRecDepth 1000000 in
theorem e333 : V.ftells Tryz.prog an3 tab 400 8 a333 r333 = true := by kernel_rfl
theorem h333 : V.Holds Tryz.prog 8 a333 r333 := V.holds_of_ftells good3 regs follows (V.Shy.none rfl) tabOk e333
set_option maxRecDepth 1000000 in
theorem e336 : V.ftells Tryz.prog an3 tab 400 9 a336 r336 = true := by kernel_rfl
theorem h336 : V.Holds Tryz.prog 9 a336 r336 := V.holds_of_ftells good3 regs follows (V.Shy.none rfl) tabOk e336
set_option maxRecDepth 1000000 in
theorem e339 : V.ftells Tryz.prog an3 tab 400 30 a339 r339 = true := by kernel_rfl
theorem h339 : V.Holds Tryz.prog 30 a339 r339 := V.holds_of_ftells good3 regs follows (V.Shy.none rfl) tabOk e339
set_option maxRecDepth 1000000 in
theorem e342 : V.ftells Tryz.prog an3 tab 400 30 a342 r342 = true := by kernel_rfl
theorem h342 : V.Holds Tryz.prog 30 a342 r342 := V.holds_of_ftells good3 regs follows (V.Shy.none rfl) tabOk e342
set_option maxRecDepth 1000000 in
theorem e345 : V.ftells Tryz.prog an3 tab 400 30 a345 r345 = true := by kernel_rfl
theorem h345 : V.Holds Tryz.prog 30 a345 r345 := V.holds_of_ftells good3 regs follows (V.Shy.none rfl) tabOk e345
set_option maxRecDepth 1000000 in
theorem e349 : V.ftells Tryz.prog an3 tab 400 30 a349 r349 = true := by kernel_rfl
theorem h349 : V.Holds Tryz.prog 30 a349 r349 := V.holds_of_ftells good3 regs follows (V.Shy.none rfl) tabOk e349
set_option maxRecDepth 1000000 in
theorem e355 : V.ftells Tryz.prog an3 tab 400 7 a355 r355 = true := by kernel_rfl
theorem h355 : V.Holds Tryz.prog 7 a355 r355 := V.holds_of_ftells good3 regs follows (V.Shy.none rfl) tabOk e355
set_option maxRecDepth 1000000 in
theorem e360 : V.ftells Tryz.prog an3 tab 400 8 a360 r360 = true := by kernel_rfl
theorem h360 : V.Holds Tryz.prog 8 a360 r360 := V.holds_of_ftells good3 regs follows (V.Shy.none rfl) tabOk e360
set_option maxRecDepth 1000000 in
theorem e363 : V.ftells Tryz.prog an3 tab 400 9 a363 r363 = true := by kernel_rfl
theorem h363 : V.Holds Tryz.prog 9 a363 r363 := V.holds_of_ftells good3 regs follows (V.Shy.none rfl) tabOk e363
set_option maxRecDepth 1000000 in
theorem e366 : V.ftells Tryz.prog an3 tab 400 30 a366 r366 = true := by kernel_rfl
theorem h366 : V.Holds Tryz.prog 30 a366 r366 := V.holds_of_ftells good3 regs follows (V.Shy.none rfl) tabOk e366
set_option maxRecDepth 1000000 in
theorem e369 : V.ftells Tryz.prog an3 tab 400 30 a369 r369 = true := by kernel_rfl
theorem h369 : V.Holds Tryz.prog 30 a369 r369 := V.holds_of_ftells good3 regs follows (V.Shy.none rfl) tabOk e369
set_option maxRecDepth 1000000 in
theorem e372 : V.ftells Tryz.prog an3 tab 400 30 a372 r372 = true := by kernel_rfl
theorem h372 : V.Holds Tryz.prog 30 a372 r372 := V.holds_of_ftells good3 regs follows (V.Shy.none rfl) tabOk e372
set_option maxRecDepth 1000000 in
theorem e376 : V.ftells Tryz.prog an3 tab 400 30 a376 r376 = true := by kernel_rfl
theorem h376 : V.Holds Tryz.prog 30 a376 r376 := V.holds_of_ftells good3 regs follows (V.Shy.none rfl) tabOk e376
set_option maxRecDepth 1000000 in
theorem e382 : V.ftells Tryz.prog an3 tab 400 8 a382 r382 = true := by kernel_rfl
theorem h382 : V.Holds Tryz.prog 8 a382 r382 := V.holds_of_ftells good3 regs follows (V.Shy.none rfl) tabOk e382
set_option maxRecDepth 1000000 in
theorem e385 : V.ftells Tryz.prog an3 tab 400 9 a385 r385 = true := by kernel_rfl
theorem h385 : V.Holds Tryz.prog 9 a385 r385 := V.holds_of_ftells good3 regs follows (V.Shy.none rfl) tabOk e385
set_option maxRecDepth 1000000 in
theorem e388 : V.ftells Tryz.prog an3 tab 400 30 a388 r388 = true := by kernel_rfl
theorem h388 : V.Holds Tryz.prog 30 a388 r388 := V.holds_of_ftells good3 regs follows (V.Shy.none rfl) tabOk e388
set_option maxRecDepth 1000000 in
theorem e391 : V.ftells Tryz.prog an3 tab 400 30 a391 r391 = true := by kernel_rfl
theorem h391 : V.Holds Tryz.prog 30 a391 r391 := V.holds_of_ftells good3 regs follows (V.Shy.none rfl) tabOk e391
set_option maxRecDepth 1000000 in
theorem e394 : V.ftells Tryz.prog an3 tab 400 30 a394 r394 = true := by kernel_rfl
theorem h394 : V.Holds Tryz.prog 30 a394 r394 := V.holds_of_ftells good3 regs follows (V.Shy.none rfl) tabOk e394
set_option maxRecDepth 1000000 in
theorem e398 : V.ftells Tryz.prog an3 tab 400 30 a398 r398 = true := by kernel_rfl
theorem h398 : V.Holds Tryz.prog 30 a398 r398 := V.holds_of_ftells good3 regs follows (V.Shy.none rfl) tabOk e398
end Go.Proofs.YtillejiepbgkbaaGreat.Say
