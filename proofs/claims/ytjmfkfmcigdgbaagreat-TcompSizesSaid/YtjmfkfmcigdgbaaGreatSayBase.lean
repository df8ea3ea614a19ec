/- What closed calls yield: types' texts, and what the laws begin with. -/
import Derived.Test.YtjmfkfmcigdgbaaGreatSayPut
set_option linter.unusedVariables false
set_option linter.unusedSimpArgs false
namespace Go.Proofs.YtjmfkfmcigdgbaaGreat.Say
open Go Go.RowKit
open V (D)
def d0 : V.D := .fp [V.txt [105, 49, 54], .int .i64 3, .int .i64 0, .nil, .int .i64 0]
def d1 : V.D := .fp [V.txt [98, 111, 111, 108], .int .i64 4, .int .i64 0, .nil, .int .i64 0]
def d2 : V.D := .fp [V.txt [105, 56], .int .i64 2, .int .i64 0, .nil, .int .i64 0]
def d3 : V.D := .fp [V.txt [105, 51, 50], .int .i64 3, .int .i64 0, .nil, .int .i64 0]
def d4 : V.D := .fp [V.txt [105, 54, 52], .int .i64 3, .int .i64 0, .nil, .int .i64 0]
def d5 : V.D := .fp [V.txt [100, 111, 117, 98, 108, 101], .int .i64 6, .int .i64 0, .nil, .int .i64 0]
def d6 : V.D := .fp [V.txt [108, 105, 115, 116, 60, 98, 111, 111, 108, 62], .int .i64 10, .int .i64 0, .nil, .int .i64 1]
def d7 : V.D := .fp [V.txt [108, 105, 115, 116, 60, 105, 56, 62], .int .i64 8, .int .i64 0, .nil, .int .i64 1]
def d8 : V.D := .fp [V.txt [108, 105, 115, 116, 60, 105, 49, 54, 62], .int .i64 9, .int .i64 0, .nil, .int .i64 1]
def d9 : V.D := .fp [V.txt [108, 105, 115, 116, 60, 105, 51, 50, 62], .int .i64 9, .int .i64 0, .nil, .int .i64 1]
def d10 : V.D := .fp [V.txt [108, 105, 115, 116, 60, 105, 54, 52, 62], .int .i64 9, .int .i64 0, .nil, .int .i64 1]
def d11 : V.D := V.txt [108, 105, 115, 116, 60, 100, 111, 117, 98, 108, 101, 62]
def d12 : V.D := .fp [V.txt [108, 105, 115, 116, 60, 100, 111, 117, 98, 108, 101, 62], .int .i64 12, .int .i64 0, .nil, .int .i64 1]
def a0 : List V.D := [(V.txt [105, 49, 54])]
def r0 : List V.D := [d0, (.int .i64 6), .nil]
def a1 : List V.D := [(.agg [.nil, .nil, .nil]), (V.txt [105, 49, 54]), (.agg [.int .i64 6, .int .i64 (-2), V.txt [], .nil, .nil]), (.agg [.int .i64 5, .int .i64 50])]
def r1 : List V.D := [(.lst [.int .u8 255, .int .u8 254]), (.int .i64 0)]
def a2 : List V.D := [(.agg [.nil, .nil, .nil]), (V.txt [105, 49, 54]), (.lst [.int .u8 0, .int .u8 5, .int .u8 9]), (.agg [.int .i64 5, .int .i64 50])]
def r2 : List V.D := [(.agg [.int .i64 6, .int .i64 5, V.txt [], .nil, .nil]), (.int .i64 2), (.int .i64 0)]
def a3 : List V.D := [(.agg [.nil, .nil, .nil]), (.agg [.int .i64 4, V.txt [], .nil]), (.agg [.int .i64 12, .int .i64 0, V.txt [], .nil, .nil]), (.agg [.int .i64 5, .int .i64 50])]
def r3 : List V.D := [(.lst [.int .u8 0]), (.int .i64 0)]
def a4 : List V.D := [(.agg [.nil, .nil, .nil]), (.agg [.int .i64 4, V.txt [], .nil]), (.lst [.int .u8 0]), (.agg [.int .i64 5, .int .i64 50])]
def r4 : List V.D := [(.agg [.int .i64 12, .int .i64 0, V.txt [], .nil, .nil]), (.int .i64 1), (.int .i64 0)]
def a5 : List V.D := [(.lst [.int .u8 1, .int .u8 2]), (.int .i64 6), (.agg [.int .i64 5, .int .i64 50])]
def r5 : List V.D := [(.int .i64 2), (.int .i64 0)]
def a6 : List V.D := [(V.txt [98, 111, 111, 108])]
def r6 : List V.D := [d1, (.int .i64 2), .nil]
def a7 : List V.D := [(V.txt [105, 56])]
def r7 : List V.D := [d2, (.int .i64 3), .nil]
def a8 : List V.D := [(V.txt [105, 51, 50])]
def r8 : List V.D := [d3, (.int .i64 8), .nil]
def a9 : List V.D := [(V.txt [105, 54, 52])]
def r9 : List V.D := [d4, (.int .i64 10), .nil]
def a10 : List V.D := [(V.txt [100, 111, 117, 98, 108, 101])]
def r10 : List V.D := [d5, (.int .i64 4), .nil]
def a11 : List V.D := [(V.txt [108, 105, 115, 116, 60, 98, 111, 111, 108, 62])]
def r11 : List V.D := [d6, (.int .i64 15), (.lst [.int .i64 9])]
def a12 : List V.D := [(V.txt [108, 105, 115, 116, 60, 105, 56, 62])]
def r12 : List V.D := [d7, (.int .i64 15), (.lst [.int .i64 7])]
def a13 : List V.D := [(V.txt [108, 105, 115, 116, 60, 105, 49, 54, 62])]
def r13 : List V.D := [d8, (.int .i64 15), (.lst [.int .i64 8])]
def a14 : List V.D := [(V.txt [108, 105, 115, 116, 60, 105, 51, 50, 62])]
def r14 : List V.D := [d9, (.int .i64 15), (.lst [.int .i64 8])]
def a15 : List V.D := [(V.txt [108, 105, 115, 116, 60, 105, 54, 52, 62])]
def r15 : List V.D := [d10, (.int .i64 15), (.lst [.int .i64 8])]
def a16 : List V.D := [d11]
def r16 : List V.D := [d12, (.int .i64 15), (.lst [.int .i64 11])]
def a17 : List V.D := []
def r17 : List V.D := [(.bool true)]
def t0 : V.Tbl := []
theorem to0 : V.TblOk Tryz.prog t0 := V.TblOk.nil
def an0 : V.An := { io := fun f => [145,146,152,153,155,157,158,159,160,161,162,163,164,165,166,167,168,169,170].contains f, ownRes := fun f => [50,90,107,128,144].contains f, spec := V.inTbl t0 }
theorem good0 : V.Good Tryz.prog an0 := ⟨named, V.spec_of_tbl to0, (fun _ _ _ _ h => nomatch h), V.call_none rfl⟩
set_option maxRecDepth 1000000 in
theorem e0 : V.tells Tryz.prog an0 400 80 a0 r0 = true := by kernel_rfl
theorem h0 : V.Holds Tryz.prog 80 a0 r0 := V.holds_of_tells good0 regs follows e0
set_option maxRecDepth 1000000 in
theorem e3 : V.tells Tryz.prog an0 400 11 a3 r3 = true := by kernel_rfl
theorem h3 : V.Holds Tryz.prog 11 a3 r3 := V.holds_of_tells good0 regs follows e3
set_option maxRecDepth 1000000 in
theorem e4 : V.tells Tryz.prog an0 400 12 a4 r4 = true := by kernel_rfl
theorem h4 : V.Holds Tryz.prog 12 a4 r4 := V.holds_of_tells good0 regs follows e4
set_option maxRecDepth 1000000 in
theorem e5 : V.tells Tryz.prog an0 400 13 a5 r5 = true := by kernel_rfl
theorem h5 : V.Holds Tryz.prog 13 a5 r5 := V.holds_of_tells good0 regs follows e5
set_option maxRecDepth 1000000 in
theorem e6 : V.tells Tryz.prog an0 400 80 a6 r6 = true := by kernel_rfl
theorem h6 : V.Holds Tryz.prog 80 a6 r6 := V.holds_of_tells good0 regs follows e6
set_option maxRecDepth 1000000 in
theorem e7 : V.tells Tryz.prog an0 400 80 a7 r7 = true := by kernel_rfl
theorem h7 : V.Holds Tryz.prog 80 a7 r7 := V.holds_of_tells good0 regs follows e7
set_option maxRecDepth 1000000 in
theorem e8 : V.tells Tryz.prog an0 400 80 a8 r8 = true := by kernel_rfl
theorem h8 : V.Holds Tryz.prog 80 a8 r8 := V.holds_of_tells good0 regs follows e8
set_option maxRecDepth 1000000 in
theorem e9 : V.tells Tryz.prog an0 400 80 a9 r9 = true := by kernel_rfl
theorem h9 : V.Holds Tryz.prog 80 a9 r9 := V.holds_of_tells good0 regs follows e9
set_option maxRecDepth 1000000 in
theorem e10 : V.tells Tryz.prog an0 400 80 a10 r10 = true := by kernel_rfl
theorem h10 : V.Holds Tryz.prog 80 a10 r10 := V.holds_of_tells good0 regs follows e10
set_option maxRecDepth 1000000 in
theorem e11 : V.tells Tryz.prog an0 400 80 a11 r11 = true := by kernel_rfl
theorem h11 : V.Holds Tryz.prog 80 a11 r11 := V.holds_of_tells good0 regs follows e11
set_option maxRecDepth 1000000 in
theorem e12 : V.tells Tryz.prog an0 400 80 a12 r12 = true := by kernel_rfl
theorem h12 : V.Holds Tryz.prog 80 a12 r12 := V.holds_of_tells good0 regs follows e12
set_option maxRecDepth 1000000 in
theorem e13 : V.tells Tryz.prog an0 400 80 a13 r13 = true := by kernel_rfl
theorem h13 : V.Holds Tryz.prog 80 a13 r13 := V.holds_of_tells good0 regs follows e13
set_option maxRecDepth 1000000 in
theorem e14 : V.tells Tryz.prog an0 400 80 a14 r14 = true := by kernel_rfl
theorem h14 : V.Holds Tryz.prog 80 a14 r14 := V.holds_of_tells good0 regs follows e14
set_option maxRecDepth 1000000 in
theorem e15 : V.tells Tryz.prog an0 400 80 a15 r15 = true := by kernel_rfl
theorem h15 : V.Holds Tryz.prog 80 a15 r15 := V.holds_of_tells good0 regs follows e15
set_option maxRecDepth 1000000 in
theorem e16 : V.tells Tryz.prog an0 400 80 a16 r16 = true := by kernel_rfl
theorem h16 : V.Holds Tryz.prog 80 a16 r16 := V.holds_of_tells good0 regs follows e16
def t1 : V.Tbl := [(80, [(a0, r0), (a6, r6), (a7, r7), (a8, r8), (a9, r9), (a10, r10), (a11, r11), (a12, r12), (a13, r13), (a14, r14), (a15, r15), (a16, r16)]), (11, [(a3, r3)]), (12, [(a4, r4)]), (13, [(a5, r5)])]
theorem to1 : V.TblOk Tryz.prog t1 := (V.TblOk.cons (V.RowOk.cons h0 (V.RowOk.cons h6 (V.RowOk.cons h7 (V.RowOk.cons h8 (V.RowOk.cons h9 (V.RowOk.cons h10 (V.RowOk.cons h11 (V.RowOk.cons h12 (V.RowOk.cons h13 (V.RowOk.cons h14 (V.RowOk.cons h15 (V.RowOk.cons h16 V.RowOk.nil)))))))))))) (V.TblOk.cons (V.RowOk.cons h3 V.RowOk.nil) (V.TblOk.cons (V.RowOk.cons h4 V.RowOk.nil) (V.TblOk.cons (V.RowOk.cons h5 V.RowOk.nil) V.TblOk.nil))))
def an1 : V.An := { io := fun f => [145,146,152,153,155,157,158,159,160,161,162,163,164,165,166,167,168,169,170].contains f, ownRes := fun f => [50,90,107,128,144].contains f, spec := V.inTbl t1 }
theorem good1 : V.Good Tryz.prog an1 := ⟨named, V.spec_of_tbl to1, (fun _ _ _ _ h => nomatch h), V.call_none rfl⟩
set_option maxRecDepth 1000000 in
theorem e1 : V.tells Tryz.prog an1 400 6 a1 r1 = true := by kernel_rfl
theorem h1 : V.Holds Tryz.prog 6 a1 r1 := V.holds_of_tells good1 regs follows e1
set_option maxRecDepth 1000000 in
theorem e2 : V.tells Tryz.prog an1 400 10 a2 r2 = true := by kernel_rfl
theorem h2 : V.Holds Tryz.prog 10 a2 r2 := V.holds_of_tells good1 regs follows e2
def t2 : V.Tbl := [(80, [(a0, r0), (a6, r6), (a7, r7), (a8, r8), (a9, r9), (a10, r10), (a11, r11), (a12, r12), (a13, r13), (a14, r14), (a15, r15), (a16, r16)]), (6, [(a1, r1)]), (10, [(a2, r2)]), (11, [(a3, r3)]), (12, [(a4, r4)]), (13, [(a5, r5)])]
theorem to2 : V.TblOk Tryz.prog t2 := (V.TblOk.cons (V.RowOk.cons h0 (V.RowOk.cons h6 (V.RowOk.cons h7 (V.RowOk.cons h8 (V.RowOk.cons h9 (V.RowOk.cons h10 (V.RowOk.cons h11 (V.RowOk.cons h12 (V.RowOk.cons h13 (V.RowOk.cons h14 (V.RowOk.cons h15 (V.RowOk.cons h16 V.RowOk.nil)))))))))))) (V.TblOk.cons (V.RowOk.cons h1 V.RowOk.nil) (V.TblOk.cons (V.RowOk.cons h2 V.RowOk.nil) (V.TblOk.cons (V.RowOk.cons h3 V.RowOk.nil) (V.TblOk.cons (V.RowOk.cons h4 V.RowOk.nil) (V.TblOk.cons (V.RowOk.cons h5 V.RowOk.nil) V.TblOk.nil))))))
def an2 : V.An := { io := fun f => [145,146,152,153,155,157,158,159,160,161,162,163,164,165,166,167,168,169,170].contains f, ownRes := fun f => [50,90,107,128,144].contains f, spec := V.inTbl t2 }
theorem good2 : V.Good Tryz.prog an2 := ⟨named, V.spec_of_tbl to2, (fun _ _ _ _ h => nomatch h), V.call_none rfl⟩
set_option maxRecDepth 1000000 in
theorem e17 : V.tells Tryz.prog an2 400 5 a17 r17 = true := by kernel_rfl
theorem h17 : V.Holds Tryz.prog 5 a17 r17 := V.holds_of_tells good2 regs follows e17
def t3 : V.Tbl := [(80, [(a0, r0), (a6, r6), (a7, r7), (a8, r8), (a9, r9), (a10, r10), (a11, r11), (a12, r12), (a13, r13), (a14, r14), (a15, r15), (a16, r16)]), (6, [(a1, r1)]), (10, [(a2, r2)]), (11, [(a3, r3)]), (12, [(a4, r4)]), (13, [(a5, r5)]), (5, [(a17, r17)])]
theorem to3 : V.TblOk Tryz.prog t3 := (V.TblOk.cons (V.RowOk.cons h0 (V.RowOk.cons h6 (V.RowOk.cons h7 (V.RowOk.cons h8 (V.RowOk.cons h9 (V.RowOk.cons h10 (V.RowOk.cons h11 (V.RowOk.cons h12 (V.RowOk.cons h13 (V.RowOk.cons h14 (V.RowOk.cons h15 (V.RowOk.cons h16 V.RowOk.nil)))))))))))) (V.TblOk.cons (V.RowOk.cons h1 V.RowOk.nil) (V.TblOk.cons (V.RowOk.cons h2 V.RowOk.nil) (V.TblOk.cons (V.RowOk.cons h3 V.RowOk.nil) (V.TblOk.cons (V.RowOk.cons h4 V.RowOk.nil) (V.TblOk.cons (V.RowOk.cons h5 V.RowOk.nil) (V.TblOk.cons (V.RowOk.cons h17 V.RowOk.nil) V.TblOk.nil)))))))
def an3 : V.An := { io := fun f => [145,146,152,153,155,157,158,159,160,161,162,163,164,165,166,167,168,169,170].contains f, ownRes := fun f => [50,90,107,128,144].contains f, spec := V.inTbl t3 }
theorem good3 : V.Good Tryz.prog an3 := ⟨named, V.spec_of_tbl to3, (fun _ _ _ _ h => nomatch h), V.call_none rfl⟩
theorem tno : V.tblNo t3 = true := by kernel_rfl

end Go.Proofs.YtjmfkfmcigdgbaaGreat.Say
