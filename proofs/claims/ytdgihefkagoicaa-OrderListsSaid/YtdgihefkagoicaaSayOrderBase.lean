/- OrderLists: what V tells of the law, its cases one by one. -/
import Derived.Test.YtdgihefkagoicaaChecked
import Derived.Test.YtdgihefkagoicaaV23
set_option linter.unusedVariables false
set_option linter.unusedSimpArgs false
namespace Go.Proofs.Ytdgihefkagoicaa.Say
open Go Go.RowKit
open V (D)
instance : V.Sig := V.sig0
theorem named : V.Named Try.prog := by
  have h : Try.prog.funcs.all (fun fn => fn.body.isNone || !(fn.name == "runtime.NumGoroutine")) = true := by kernel_rfl
  intro f fn c hf hc
  have := Array.all_eq_true_iff_forall_mem.1 h fn (Array.mem_of_getElem? hf)
  simpa [hc] using this
theorem regs : V.RegsP Try.prog := V.regs_of_check Try.checked.codeOk
theorem follows : Try.prog.follows .mixedOrders = true := by kernel_rfl
def d0 : V.D := .agg [.int .i64 14, .int .i64 0, V.txt [], .lst [.agg [.int .i64 8, .int .i64 2, V.txt [], .nil, .nil], .agg [.int .i64 8, .int .i64 1, V.txt [], .nil, .nil], .agg [.int .i64 8, .int .i64 2, V.txt [], .nil, .nil]], .nil]
def d1 : V.D := .agg [.int .i64 14, .int .i64 0, V.txt [], .lst [.agg [.int .i64 8, .int .i64 1, V.txt [], .nil, .nil], .agg [.int .i64 8, .int .i64 2, V.txt [], .nil, .nil]], .nil]
def d2 : V.D := .lst [.agg [.int .i64 8, .int .i64 1, V.txt [], .nil, .nil], .agg [.int .i64 8, .int .i64 2, V.txt [], .nil, .nil]]
def a0 : List V.D := [(.agg [.int .i64 8, .int .i64 2, V.txt [], .nil, .nil])]
def r0 : List V.D := [(.agg [.int .i64 8, .int .i64 2, V.txt [], .nil, .nil])]
def a1 : List V.D := [(.agg [.int .i64 8, .int .i64 2, V.txt [], .nil, .nil])]
def r1 : List V.D := [(.agg [.int .i64 8, .int .i64 2, V.txt [], .nil, .nil]), (.int .i64 0)]
def a2 : List V.D := [(.agg [.int .i64 8, .int .i64 1, V.txt [], .nil, .nil])]
def r2 : List V.D := [(.agg [.int .i64 8, .int .i64 1, V.txt [], .nil, .nil])]
def a3 : List V.D := [(.agg [.int .i64 8, .int .i64 1, V.txt [], .nil, .nil])]
def r3 : List V.D := [(.agg [.int .i64 8, .int .i64 1, V.txt [], .nil, .nil]), (.int .i64 0)]
def a4 : List V.D := [(.int .i64 8), (.int .i64 8)]
def r4 : List V.D := [(.int .i64 0)]
def a5 : List V.D := [(.int .i64 1), (.int .i64 2)]
def r5 : List V.D := [(.int .i64 (-1))]
def a6 : List V.D := [(.agg [.int .i64 8, .int .i64 1, V.txt [], .nil, .nil]), (.agg [.int .i64 8, .int .i64 2, V.txt [], .nil, .nil])]
def r6 : List V.D := [(.int .i64 (-1))]
def a7 : List V.D := [(.int .i64 2), (.int .i64 2)]
def r7 : List V.D := [(.int .i64 0)]
def a8 : List V.D := [(.agg [.int .i64 8, .int .i64 2, V.txt [], .nil, .nil]), (.agg [.int .i64 8, .int .i64 2, V.txt [], .nil, .nil])]
def r8 : List V.D := [(.int .i64 0)]
def a9 : List V.D := [(.int .i64 2), (.int .i64 1)]
def r9 : List V.D := [(.int .i64 1)]
def a10 : List V.D := [(.agg [.int .i64 8, .int .i64 2, V.txt [], .nil, .nil]), (.agg [.int .i64 8, .int .i64 1, V.txt [], .nil, .nil])]
def r10 : List V.D := [(.int .i64 1)]
def a11 : List V.D := [d0]
def r11 : List V.D := [d1, (.int .i64 0)]
def a12 : List V.D := [d1]
def r12 : List V.D := [d1, (.int .i64 0)]
def a13 : List V.D := [(.int .i64 14), (.int .i64 14)]
def r13 : List V.D := [(.int .i64 0)]
def a14 : List V.D := [(.int .i64 1), (.int .i64 1)]
def r14 : List V.D := [(.int .i64 0)]
def a15 : List V.D := [(.agg [.int .i64 8, .int .i64 1, V.txt [], .nil, .nil]), (.agg [.int .i64 8, .int .i64 1, V.txt [], .nil, .nil])]
def r15 : List V.D := [(.int .i64 0)]
def a16 : List V.D := [d2, d2, (.fn 13 [])]
def r16 : List V.D := [(.int .i64 0)]
def a17 : List V.D := [d1, d1]
def r17 : List V.D := [(.int .i64 0)]
def a18 : List V.D := [d1]
def r18 : List V.D := [(.bool true)]
def a19 : List V.D := []
def r19 : List V.D := [(.bool true)]
def a20 : List V.D := [(.int .i64 15), (.int .i64 15)]
def r20 : List V.D := [(.int .i64 0)]
def a21 : List V.D := [(.agg [.int .i64 15, .int .i64 0, V.txt [], .nil, .nil]), (.agg [.int .i64 15, .int .i64 0, V.txt [], .nil, .nil])]
def r21 : List V.D := [(.int .i64 0)]
def a22 : List V.D := [(.int .i64 11), (.int .i64 11)]
def r22 : List V.D := [(.int .i64 0)]
def a23 : List V.D := [(.agg [.int .i64 11, .int .i64 0, V.txt [], .nil, .nil]), (.agg [.int .i64 11, .int .i64 0, V.txt [], .nil, .nil])]
def r23 : List V.D := [(.int .i64 0)]
def t0 : V.Tbl := []
theorem to0 : V.TblOk Try.prog t0 := V.TblOk.nil
def an0 : V.An := { io := fun f => [71,72,86,87,89,92,93,94,95,96,97,98,99,100,101,102,103,104,105].contains f, ownRes := fun f => [51].contains f, spec := V.inTbl t0 }
theorem good0 : V.Good Try.prog an0 := ⟨named, V.spec_of_tbl to0, fun _ _ _ _ h => nomatch h⟩
set_option maxRecDepth 1000000 in
theorem e0 : V.tells Try.prog an0 400 31 a0 r0 = true := by kernel_rfl
theorem h0 : V.Holds Try.prog 31 a0 r0 := V.holds_of_tells good0 regs follows e0
set_option maxRecDepth 1000000 in
theorem e2 : V.tells Try.prog an0 400 31 a2 r2 = true := by kernel_rfl
theorem h2 : V.Holds Try.prog 31 a2 r2 := V.holds_of_tells good0 regs follows e2
set_option maxRecDepth 1000000 in
theorem e4 : V.tells Try.prog an0 400 32 a4 r4 = true := by kernel_rfl
theorem h4 : V.Holds Try.prog 32 a4 r4 := V.holds_of_tells good0 regs follows e4
set_option maxRecDepth 1000000 in
theorem e5 : V.tells Try.prog an0 400 33 a5 r5 = true := by kernel_rfl
theorem h5 : V.Holds Try.prog 33 a5 r5 := V.holds_of_tells good0 regs follows e5
set_option maxRecDepth 1000000 in
theorem e7 : V.tells Try.prog an0 400 33 a7 r7 = true := by kernel_rfl
theorem h7 : V.Holds Try.prog 33 a7 r7 := V.holds_of_tells good0 regs follows e7
set_option maxRecDepth 1000000 in
theorem e9 : V.tells Try.prog an0 400 33 a9 r9 = true := by kernel_rfl
theorem h9 : V.Holds Try.prog 33 a9 r9 := V.holds_of_tells good0 regs follows e9
set_option maxRecDepth 1000000 in
theorem e13 : V.tells Try.prog an0 400 32 a13 r13 = true := by kernel_rfl
theorem h13 : V.Holds Try.prog 32 a13 r13 := V.holds_of_tells good0 regs follows e13
set_option maxRecDepth 1000000 in
theorem e14 : V.tells Try.prog an0 400 33 a14 r14 = true := by kernel_rfl
theorem h14 : V.Holds Try.prog 33 a14 r14 := V.holds_of_tells good0 regs follows e14
set_option maxRecDepth 1000000 in
theorem e20 : V.tells Try.prog an0 400 32 a20 r20 = true := by kernel_rfl
theorem h20 : V.Holds Try.prog 32 a20 r20 := V.holds_of_tells good0 regs follows e20
set_option maxRecDepth 1000000 in
theorem e22 : V.tells Try.prog an0 400 32 a22 r22 = true := by kernel_rfl
theorem h22 : V.Holds Try.prog 32 a22 r22 := V.holds_of_tells good0 regs follows e22
def t1 : V.Tbl := [(31, [(a0, r0), (a2, r2)]), (32, [(a4, r4), (a13, r13), (a20, r20), (a22, r22)]), (33, [(a5, r5), (a7, r7), (a9, r9), (a14, r14)])]
theorem to1 : V.TblOk Try.prog t1 := (V.TblOk.cons (V.RowOk.cons h0 (V.RowOk.cons h2 V.RowOk.nil)) (V.TblOk.cons (V.RowOk.cons h4 (V.RowOk.cons h13 (V.RowOk.cons h20 (V.RowOk.cons h22 V.RowOk.nil)))) (V.TblOk.cons (V.RowOk.cons h5 (V.RowOk.cons h7 (V.RowOk.cons h9 (V.RowOk.cons h14 V.RowOk.nil)))) V.TblOk.nil)))
def an1 : V.An := { io := fun f => [71,72,86,87,89,92,93,94,95,96,97,98,99,100,101,102,103,104,105].contains f, ownRes := fun f => [51].contains f, spec := V.inTbl t1 }
theorem good1 : V.Good Try.prog an1 := ⟨named, V.spec_of_tbl to1, fun _ _ _ _ h => nomatch h⟩
set_option maxRecDepth 1000000 in
theorem e1 : V.tells Try.prog an1 400 50 a1 r1 = true := by kernel_rfl
theorem h1 : V.Holds Try.prog 50 a1 r1 := V.holds_of_tells good1 regs follows e1
set_option maxRecDepth 1000000 in
theorem e3 : V.tells Try.prog an1 400 50 a3 r3 = true := by kernel_rfl
theorem h3 : V.Holds Try.prog 50 a3 r3 := V.holds_of_tells good1 regs follows e3
set_option maxRecDepth 1000000 in
theorem e6 : V.tells Try.prog an1 400 13 a6 r6 = true := by kernel_rfl
theorem h6 : V.Holds Try.prog 13 a6 r6 := V.holds_of_tells good1 regs follows e6
set_option maxRecDepth 1000000 in
theorem e8 : V.tells Try.prog an1 400 13 a8 r8 = true := by kernel_rfl
theorem h8 : V.Holds Try.prog 13 a8 r8 := V.holds_of_tells good1 regs follows e8
set_option maxRecDepth 1000000 in
theorem e10 : V.tells Try.prog an1 400 13 a10 r10 = true := by kernel_rfl
theorem h10 : V.Holds Try.prog 13 a10 r10 := V.holds_of_tells good1 regs follows e10
set_option maxRecDepth 1000000 in
theorem e15 : V.tells Try.prog an1 400 13 a15 r15 = true := by kernel_rfl
theorem h15 : V.Holds Try.prog 13 a15 r15 := V.holds_of_tells good1 regs follows e15
set_option maxRecDepth 1000000 in
theorem e21 : V.tells Try.prog an1 400 13 a21 r21 = true := by kernel_rfl
theorem h21 : V.Holds Try.prog 13 a21 r21 := V.holds_of_tells good1 regs follows e21
set_option maxRecDepth 1000000 in
theorem e23 : V.tells Try.prog an1 400 13 a23 r23 = true := by kernel_rfl
theorem h23 : V.Holds Try.prog 13 a23 r23 := V.holds_of_tells good1 regs follows e23
def t2 : V.Tbl := [(31, [(a0, r0), (a2, r2)]), (50, [(a1, r1), (a3, r3)]), (32, [(a4, r4), (a13, r13), (a20, r20), (a22, r22)]), (33, [(a5, r5), (a7, r7), (a9, r9), (a14, r14)]), (13, [(a6, r6), (a8, r8), (a10, r10), (a15, r15), (a21, r21), (a23, r23)])]
theorem to2 : V.TblOk Try.prog t2 := (V.TblOk.cons (V.RowOk.cons h0 (V.RowOk.cons h2 V.RowOk.nil)) (V.TblOk.cons (V.RowOk.cons h1 (V.RowOk.cons h3 V.RowOk.nil)) (V.TblOk.cons (V.RowOk.cons h4 (V.RowOk.cons h13 (V.RowOk.cons h20 (V.RowOk.cons h22 V.RowOk.nil)))) (V.TblOk.cons (V.RowOk.cons h5 (V.RowOk.cons h7 (V.RowOk.cons h9 (V.RowOk.cons h14 V.RowOk.nil)))) (V.TblOk.cons (V.RowOk.cons h6 (V.RowOk.cons h8 (V.RowOk.cons h10 (V.RowOk.cons h15 (V.RowOk.cons h21 (V.RowOk.cons h23 V.RowOk.nil)))))) V.TblOk.nil)))))
def an2 : V.An := { io := fun f => [71,72,86,87,89,92,93,94,95,96,97,98,99,100,101,102,103,104,105].contains f, ownRes := fun f => [51].contains f, spec := V.inTbl t2 }
theorem good2 : V.Good Try.prog an2 := ⟨named, V.spec_of_tbl to2, fun _ _ _ _ h => nomatch h⟩
set_option maxRecDepth 1000000 in
theorem e11 : V.tells Try.prog an2 400 50 a11 r11 = true := by kernel_rfl
theorem h11 : V.Holds Try.prog 50 a11 r11 := V.holds_of_tells good2 regs follows e11
set_option maxRecDepth 1000000 in
theorem e12 : V.tells Try.prog an2 400 50 a12 r12 = true := by kernel_rfl
theorem h12 : V.Holds Try.prog 50 a12 r12 := V.holds_of_tells good2 regs follows e12
set_option maxRecDepth 1000000 in
theorem e16 : V.tells Try.prog an2 400 56 a16 r16 = true := by kernel_rfl
theorem h16 : V.Holds Try.prog 56 a16 r16 := V.holds_of_tells good2 regs follows e16
def t3 : V.Tbl := [(31, [(a0, r0), (a2, r2)]), (50, [(a1, r1), (a3, r3), (a11, r11), (a12, r12)]), (32, [(a4, r4), (a13, r13), (a20, r20), (a22, r22)]), (33, [(a5, r5), (a7, r7), (a9, r9), (a14, r14)]), (13, [(a6, r6), (a8, r8), (a10, r10), (a15, r15), (a21, r21), (a23, r23)]), (56, [(a16, r16)])]
theorem to3 : V.TblOk Try.prog t3 := (V.TblOk.cons (V.RowOk.cons h0 (V.RowOk.cons h2 V.RowOk.nil)) (V.TblOk.cons (V.RowOk.cons h1 (V.RowOk.cons h3 (V.RowOk.cons h11 (V.RowOk.cons h12 V.RowOk.nil)))) (V.TblOk.cons (V.RowOk.cons h4 (V.RowOk.cons h13 (V.RowOk.cons h20 (V.RowOk.cons h22 V.RowOk.nil)))) (V.TblOk.cons (V.RowOk.cons h5 (V.RowOk.cons h7 (V.RowOk.cons h9 (V.RowOk.cons h14 V.RowOk.nil)))) (V.TblOk.cons (V.RowOk.cons h6 (V.RowOk.cons h8 (V.RowOk.cons h10 (V.RowOk.cons h15 (V.RowOk.cons h21 (V.RowOk.cons h23 V.RowOk.nil)))))) (V.TblOk.cons (V.RowOk.cons h16 V.RowOk.nil) V.TblOk.nil))))))
def an3 : V.An := { io := fun f => [71,72,86,87,89,92,93,94,95,96,97,98,99,100,101,102,103,104,105].contains f, ownRes := fun f => [51].contains f, spec := V.inTbl t3 }
theorem good3 : V.Good Try.prog an3 := ⟨named, V.spec_of_tbl to3, fun _ _ _ _ h => nomatch h⟩
set_option maxRecDepth 1000000 in
theorem e17 : V.tells Try.prog an3 400 13 a17 r17 = true := by kernel_rfl
theorem h17 : V.Holds Try.prog 13 a17 r17 := V.holds_of_tells good3 regs follows e17
def t4 : V.Tbl := [(31, [(a0, r0), (a2, r2)]), (50, [(a1, r1), (a3, r3), (a11, r11), (a12, r12)]), (32, [(a4, r4), (a13, r13), (a20, r20), (a22, r22)]), (33, [(a5, r5), (a7, r7), (a9, r9), (a14, r14)]), (13, [(a6, r6), (a8, r8), (a10, r10), (a15, r15), (a17, r17), (a21, r21), (a23, r23)]), (56, [(a16, r16)])]
theorem to4 : V.TblOk Try.prog t4 := (V.TblOk.cons (V.RowOk.cons h0 (V.RowOk.cons h2 V.RowOk.nil)) (V.TblOk.cons (V.RowOk.cons h1 (V.RowOk.cons h3 (V.RowOk.cons h11 (V.RowOk.cons h12 V.RowOk.nil)))) (V.TblOk.cons (V.RowOk.cons h4 (V.RowOk.cons h13 (V.RowOk.cons h20 (V.RowOk.cons h22 V.RowOk.nil)))) (V.TblOk.cons (V.RowOk.cons h5 (V.RowOk.cons h7 (V.RowOk.cons h9 (V.RowOk.cons h14 V.RowOk.nil)))) (V.TblOk.cons (V.RowOk.cons h6 (V.RowOk.cons h8 (V.RowOk.cons h10 (V.RowOk.cons h15 (V.RowOk.cons h17 (V.RowOk.cons h21 (V.RowOk.cons h23 V.RowOk.nil))))))) (V.TblOk.cons (V.RowOk.cons h16 V.RowOk.nil) V.TblOk.nil))))))
def an4 : V.An := { io := fun f => [71,72,86,87,89,92,93,94,95,96,97,98,99,100,101,102,103,104,105].contains f, ownRes := fun f => [51].contains f, spec := V.inTbl t4 }
theorem good4 : V.Good Try.prog an4 := ⟨named, V.spec_of_tbl to4, fun _ _ _ _ h => nomatch h⟩
set_option maxRecDepth 1000000 in
theorem e18 : V.tells Try.prog an4 400 30 a18 r18 = true := by kernel_rfl
theorem h18 : V.Holds Try.prog 30 a18 r18 := V.holds_of_tells good4 regs follows e18
def t5 : V.Tbl := [(31, [(a0, r0), (a2, r2)]), (50, [(a1, r1), (a3, r3), (a11, r11), (a12, r12)]), (32, [(a4, r4), (a13, r13), (a20, r20), (a22, r22)]), (33, [(a5, r5), (a7, r7), (a9, r9), (a14, r14)]), (13, [(a6, r6), (a8, r8), (a10, r10), (a15, r15), (a17, r17), (a21, r21), (a23, r23)]), (56, [(a16, r16)]), (30, [(a18, r18)])]
theorem to5 : V.TblOk Try.prog t5 := (V.TblOk.cons (V.RowOk.cons h0 (V.RowOk.cons h2 V.RowOk.nil)) (V.TblOk.cons (V.RowOk.cons h1 (V.RowOk.cons h3 (V.RowOk.cons h11 (V.RowOk.cons h12 V.RowOk.nil)))) (V.TblOk.cons (V.RowOk.cons h4 (V.RowOk.cons h13 (V.RowOk.cons h20 (V.RowOk.cons h22 V.RowOk.nil)))) (V.TblOk.cons (V.RowOk.cons h5 (V.RowOk.cons h7 (V.RowOk.cons h9 (V.RowOk.cons h14 V.RowOk.nil)))) (V.TblOk.cons (V.RowOk.cons h6 (V.RowOk.cons h8 (V.RowOk.cons h10 (V.RowOk.cons h15 (V.RowOk.cons h17 (V.RowOk.cons h21 (V.RowOk.cons h23 V.RowOk.nil))))))) (V.TblOk.cons (V.RowOk.cons h16 V.RowOk.nil) (V.TblOk.cons (V.RowOk.cons h18 V.RowOk.nil) V.TblOk.nil)))))))
def an5 : V.An := { io := fun f => [71,72,86,87,89,92,93,94,95,96,97,98,99,100,101,102,103,104,105].contains f, ownRes := fun f => [51].contains f, spec := V.inTbl t5 }
theorem good5 : V.Good Try.prog an5 := ⟨named, V.spec_of_tbl to5, fun _ _ _ _ h => nomatch h⟩
set_option maxRecDepth 1000000 in
theorem e19 : V.tells Try.prog an5 400 12 a19 r19 = true := by kernel_rfl
theorem h19 : V.Holds Try.prog 12 a19 r19 := V.holds_of_tells good5 regs follows e19
def t6 : V.Tbl := [(31, [(a0, r0), (a2, r2)]), (50, [(a1, r1), (a3, r3), (a11, r11), (a12, r12)]), (32, [(a4, r4), (a13, r13), (a20, r20), (a22, r22)]), (33, [(a5, r5), (a7, r7), (a9, r9), (a14, r14)]), (13, [(a6, r6), (a8, r8), (a10, r10), (a15, r15), (a17, r17), (a21, r21), (a23, r23)]), (56, [(a16, r16)]), (30, [(a18, r18)]), (12, [(a19, r19)])]
theorem to6 : V.TblOk Try.prog t6 := (V.TblOk.cons (V.RowOk.cons h0 (V.RowOk.cons h2 V.RowOk.nil)) (V.TblOk.cons (V.RowOk.cons h1 (V.RowOk.cons h3 (V.RowOk.cons h11 (V.RowOk.cons h12 V.RowOk.nil)))) (V.TblOk.cons (V.RowOk.cons h4 (V.RowOk.cons h13 (V.RowOk.cons h20 (V.RowOk.cons h22 V.RowOk.nil)))) (V.TblOk.cons (V.RowOk.cons h5 (V.RowOk.cons h7 (V.RowOk.cons h9 (V.RowOk.cons h14 V.RowOk.nil)))) (V.TblOk.cons (V.RowOk.cons h6 (V.RowOk.cons h8 (V.RowOk.cons h10 (V.RowOk.cons h15 (V.RowOk.cons h17 (V.RowOk.cons h21 (V.RowOk.cons h23 V.RowOk.nil))))))) (V.TblOk.cons (V.RowOk.cons h16 V.RowOk.nil) (V.TblOk.cons (V.RowOk.cons h18 V.RowOk.nil) (V.TblOk.cons (V.RowOk.cons h19 V.RowOk.nil) V.TblOk.nil))))))))
def an6 : V.An := { io := fun f => [71,72,86,87,89,92,93,94,95,96,97,98,99,100,101,102,103,104,105].contains f, ownRes := fun f => [51].contains f, spec := V.inTbl t6 }
theorem good6 : V.Good Try.prog an6 := ⟨named, V.spec_of_tbl to6, fun _ _ _ _ h => nomatch h⟩
theorem tno : V.tblNo t6 = true := by kernel_rfl
/-! Numbers in order. -/
def mt : D := V.txt []
def vI (z : Int) : D := .agg [.int .i64 3, .int .i64 z, mt, .nil, .nil]
def lstV : List Int → D
  | [] => .nil
  | z :: l => .lst ((z :: l).map vI)
def lexC : List Int → List Int → Int
  | [], [] => 0
  | [], _ :: _ => -1
  | _ :: _, [] => 1
  | x :: l, y :: m => if x < y then -1 else if x > y then 1 else lexC l m
theorem noVs : ∀ l : List Int, V.noSyms (l.map vI) = true
  | [] => rfl
  | z :: l => by simp only [List.map_cons, V.noSyms, noVs l, Bool.and_true]; rfl
theorem noLst (l : List Int) : V.noSym (lstV l) = true := by cases l with
  | nil => rfl
  | cons z l => simp only [lstV, V.noSym]; exact noVs _
theorem oneLst (l : List Int) : (lstV l).one = true := by cases l <;> rfl
theorem lstV_get {l : List Int} {i : Nat} (h : i < l.length) : lstV l = .lst (l.map vI) ∧ (l.map vI)[i]? = some (vI (l.getD i 0)) := by
  constructor
  · cases l with
    | nil => simp at h
    | cons => rfl
  · simp [List.getElem?_map, List.getElem?_eq_getElem h, List.getD]
theorem lexC_drop {l m : List Int} {i : Nat} (hl : i < l.length) (hm : i < m.length) : lexC (l.drop i) (m.drop i) = if l.getD i 0 < m.getD i 0 then -1 else if l.getD i 0 > m.getD i 0 then 1 else lexC (l.drop (i + 1)) (m.drop (i + 1)) := by
  rw [List.drop_eq_getElem_cons hl, List.drop_eq_getElem_cons hm]
  simp [lexC, List.getD, List.getElem?_eq_getElem hl, List.getElem?_eq_getElem hm]
theorem lexC_short {l m : List Int} {i : Nat} (hl : i < l.length) (hm : m.length ≤ i) : lexC (l.drop i) (m.drop i) = 1 := by
  rw [List.drop_eq_getElem_cons hl, List.drop_eq_nil_of_le hm]
  rfl
theorem lexC_end {l m : List Int} {i : Nat} (hl : l.length ≤ i) : lexC (l.drop i) (m.drop i) = if i < m.length then -1 else 0 := by
  rw [List.drop_eq_nil_of_le hl]
  split
  · rename_i h; rw [List.drop_eq_getElem_cons h]; rfl
  · rename_i h; rw [List.drop_eq_nil_of_le (by omega)]; rfl

/-! Codes in parts. -/
def cf : Code → Code
  | .seq a _ => a
  | c => c
def cs : Code → Code
  | .seq _ b => b
  | c => c
def cb : Code → Code
  | .block _ b => b
  | .loop b => b
  | c => c
noncomputable def cC : Code := match Try.f56.body with
  | some c => c
  | none => .skip
noncomputable def cC0 : Code := cf cC
noncomputable def cC1 : Code := cf (cf (cs cC))
noncomputable def bC : Code := cb (cb (cs (cf (cs cC))))
noncomputable def tC : Code := cs (cs cC)
theorem bodyC : Try.f56.body = some cC := by kernel_rfl
theorem shapeC : cC = .seq cC0 (.seq (.seq cC1 (.block 0 (.loop bC))) tC) := by kernel_rfl
theorem regsC : V.Regs cC0 ∧ (V.Regs cC1 ∧ V.Regs bC) ∧ V.Regs tC := by
  have h := regs 56 Try.f56 cC Try.func56 bodyC
  rw [shapeC] at h
  exact h
def SC (a b i n : D) : V.St := ⟨[.dat a, .dat b, .dat (.fn 13 [])] ++ (List.replicate 8 .junk ++ ([.dat a, .dat n, .dat i] ++ List.replicate 25 .junk)), [], 32⟩
def SR (r : D) : V.St := ⟨List.replicate 6 .junk ++ (.dat r :: List.replicate 32 .junk), [], 32⟩
theorem inSC (σ : Nat → D) (a b i n : D) : V.inS σ (SC a b i n) = SC (V.inD σ a) (V.inD σ b) (V.inD σ i) (V.inD σ n) := by
  simp only [SC, V.inS, V.inUs_eq, List.map_append, List.map_cons, List.map_nil, V.inU, V.inD, V.inDs, List.map_replicate, V.inSt]
theorem inSR (σ : Nat → D) (r : D) : V.inS σ (SR r) = SR (V.inD σ r) := by
  simp only [SR, V.inS, V.inUs_eq, List.map_append, List.map_cons, List.map_nil, V.inU, List.map_replicate, V.inSt]
def kC : List Bool := [true, true, true, false, false, false, false, false, false, false, false, true, true, true]
def kR : List Bool := [false, false, false, false, false, false, true]
def sC (l m : List Int) (i : Nat) : Nat → D
  | 1 => lstV l
  | 2 => lstV m
  | 3 => .int .i64 i
  | 4 => .int .i64 l.length
  | 5 => .int .i64 m.length
  | 6 => .int .i64 (l.getD i 0)
  | 7 => .int .i64 (m.getD i 0)
  | 8 => .int .i64 (i + 1)
  | _ => .nil
theorem plainC (l m : List Int) (i : Nat) : V.Plain (sC l m i) := by
  constructor
  · intro j
    unfold sC
    split <;> first | rfl | exact oneLst _
  · intro j
    unfold sC
    split <;> first | rfl | exact noLst _
def eA : D := .sym 6
def g0 : List V.Gact := [.len 39 (.sym 1) (.sym 4), .len 39 (.sym 2) (.sym 5)]
def g1 : List V.Gact := .ix 39 (.sym 1) (.sym 3) [.int .i64 3, .sym 6, mt, .nil, .nil] :: g0
def g2 : List V.Gact := .ix 39 (.sym 2) (.sym 3) [.int .i64 3, .sym 7, mt, .nil, .nil] :: g1
def fSame : List V.Fact := [.cmp .lss (.sym 3) (.sym 4) true, .cmp .geq (.sym 3) (.sym 5) false, .cmp .neq (.sym 6) (.sym 6) false, .cmp .neq (.sym 7) (.sym 7) false]
def fE : List V.Fact := fSame ++ [.cmp .lss (.sym 6) (.sym 7) false, .cmp .gtr (.sym 6) (.sym 7) false, .ari .add (.sym 3) (.int .i64 1) (.sym 8)]
def fL : List V.Fact := fSame ++ [.cmp .lss (.sym 6) (.sym 7) true]
def fG : List V.Fact := fSame ++ [.cmp .lss (.sym 6) (.sym 7) false, .cmp .gtr (.sym 6) (.sym 7) true]
def fS : List V.Fact := [.cmp .lss (.sym 3) (.sym 4) true, .cmp .geq (.sym 3) (.sym 5) true]
def fX : List V.Fact := [.cmp .lss (.sym 3) (.sym 4) false]
def fT (r : Bool) : List V.Fact := [.cmp .lss (.sym 4) (.sym 5) r]
def aC (f : List V.Fact) (g : List V.Gact) : V.An := { an6 with orc := V.orcOr (V.orcOf f) (V.orcG g) }
def hC : V.St := SC (.sym 1) (.sym 2) (.sym 3) (.sym 4)
set_option maxRecDepth 1000000 in
theorem runE : V.uptoD Try.prog (aC fE g2) 400 bC hC [] kC 32 = some (.normal, SC (.sym 1) (.sym 2) (.sym 8) (.sym 4)) := by kernel_rfl
set_option maxRecDepth 1000000 in
theorem runL : V.uptoD Try.prog (aC fL g2) 400 bC hC [] kR 32 = some (.ret, SR (.int .i64 (-1))) := by kernel_rfl
set_option maxRecDepth 1000000 in
theorem runG : V.uptoD Try.prog (aC fG g2) 400 bC hC [] kR 32 = some (.ret, SR (.int .i64 1)) := by kernel_rfl
set_option maxRecDepth 1000000 in
theorem runSh : V.uptoD Try.prog (aC fS g1) 400 bC hC [] kR 32 = some (.ret, SR (.int .i64 1)) := by kernel_rfl
set_option maxRecDepth 1000000 in
theorem runXx : V.uptoD Try.prog (aC fX g0) 400 bC hC [] kC 32 = some (.exit 0, hC) := by kernel_rfl
set_option maxRecDepth 1000000 in
theorem runT1 : V.uptoD Try.prog (aC (fT true) g0) 400 tC hC [] kR 32 = some (.ret, SR (.int .i64 (-1))) := by kernel_rfl
set_option maxRecDepth 1000000 in
theorem runT0 : V.uptoD Try.prog (aC (fT false) g0) 400 tC hC [] kR 32 = some (.ret, SR (.int .i64 0)) := by kernel_rfl
def nd : Option (V.X × V.St) → V.St
  | some (_, s) => s
  | none => default
def zC : V.St := ⟨[.dat (.sym 1), .dat (.sym 2), .dat (.fn 13 [])] ++ List.replicate 36 .undef, [], 0⟩
noncomputable def zC1 : V.St := nd (V.exec Try.prog an6 400 cC0 zC)
set_option maxRecDepth 1000000 in
theorem runC0 : V.exec Try.prog an6 400 cC0 zC = some (.normal, zC1) := by kernel_rfl
set_option maxRecDepth 1000000 in
theorem runC1 : V.uptoD Try.prog (aC [] g0) 400 cC1 zC1 [] kC 32 = some (.normal, SC (.sym 1) (.sym 2) (.int .i64 0) (.sym 4)) := by kernel_rfl

theorem lenOk (l m : List Int) (i : Nat) : ∀ f ∈ g0, @V.Gact.ok (V.sigOf (sC l m i)) Try.prog f := by
  letI : V.Sig := V.sigOf (sC l m i)
  have key : ∀ l : List Int, lstV l = .nil ∧ l.length = 0 ∨ ∃ q, lstV l = .lst q ∧ l.length = q.length := by
    intro l
    cases l with
    | nil => exact .inl ⟨rfl, rfl⟩
    | cons z l => exact .inr ⟨_, rfl, by simp⟩
  intro f hf
  simp only [g0, List.mem_cons, List.not_mem_nil, or_false] at hf
  rcases hf with rfl | rfl
  · exact ⟨l.length, rfl, .inl ⟨⟨_, Try.underlying39⟩, key l⟩⟩
  · exact ⟨m.length, rfl, .inl ⟨⟨_, Try.underlying39⟩, key m⟩⟩
theorem sz41 : V.sizeT Try.prog 41 = some 5 := by kernel_rfl
theorem cellsOk (z : Int) (k : Nat) [V.Sig] (hk : V.Sig.σ k = .int .i64 z) : ∀ (j : Nat) c y, ([.int .i64 3, .sym k, mt, .nil, .nil] : List D)[j]? = some c → (vI z).cells[j]? = some y → c = y ∨ ∃ m, c = .sym m ∧ V.Sig.σ m = y := by
  intro j c y hc hy
  simp only [vI, V.D.cells] at hy
  match j with
  | 0 => simp at hc hy; subst hc; subst hy; exact .inl rfl
  | 1 => simp at hc hy; subst hc; subst hy; exact .inr ⟨k, rfl, hk⟩
  | 2 => simp at hc hy; subst hc; subst hy; exact .inl rfl
  | 3 => simp at hc hy; subst hc; subst hy; exact .inl rfl
  | 4 => simp at hc hy; subst hc; subst hy; exact .inl rfl
  | j + 5 => simp at hc
theorem g1Ok (l m : List Int) (i : Nat) (hl : i < l.length) : ∀ f ∈ g1, @V.Gact.ok (V.sigOf (sC l m i)) Try.prog f := by
  letI : V.Sig := V.sigOf (sC l m i)
  intro f hf
  simp only [g1, List.mem_cons] at hf
  rcases hf with rfl | hf
  · obtain ⟨h1, h2⟩ := lstV_get hl
    exact ⟨.i64, i, l.map vI, vI (l.getD i 0), 41, h1, rfl, by omega, by simpa using h2, Try.underlying39, sz41, by show 0 < 5; omega, rfl, cellsOk _ 6 rfl⟩
  · exact lenOk l m i f hf
theorem g2Ok (l m : List Int) (i : Nat) (hl : i < l.length) (hm : i < m.length) : ∀ f ∈ g2, @V.Gact.ok (V.sigOf (sC l m i)) Try.prog f := by
  letI : V.Sig := V.sigOf (sC l m i)
  intro f hf
  simp only [g2, List.mem_cons] at hf
  rcases hf with rfl | hf
  · obtain ⟨h1, h2⟩ := lstV_get hm
    exact ⟨.i64, i, m.map vI, vI (m.getD i 0), 41, h1, rfl, by omega, by simpa using h2, Try.underlying39, sz41, by show 0 < 5; omega, rfl, cellsOk _ 7 rfl⟩
  · exact g1Ok l m i hl f hf
theorem goodC {l m : List Int} {i : Nat} {f : List V.Fact} {g : List V.Gact} (hf : ∀ x ∈ f, @V.Fact.ok (V.sigOf (sC l m i)) Try.prog x) (hg : ∀ x ∈ g, @V.Gact.ok (V.sigOf (sC l m i)) Try.prog x) : @V.Good (V.sigOf (sC l m i)) Try.prog (aC f g) :=
  @V.Good.mk (V.sigOf (sC l m i)) _ _ named (@V.spec_of_tbl (V.sigOf (sC l m i)) _ _ (V.TblOk.any tno to6)) (@V.orc_both (V.sigOf (sC l m i)) _ _ _ hf hg _ rfl)
theorem goodB (s : V.Sig) : @V.Good s Try.prog an6 := @V.Good.mk s _ _ named (@V.spec_of_tbl s _ _ (V.TblOk.any tno to6)) (fun _ _ _ _ h => nomatch h)
theorem sameOk (l m : List Int) (i : Nat) (hl : i < l.length) (hm : i < m.length) : ∀ f ∈ fSame, @V.Fact.ok (V.sigOf (sC l m i)) Try.prog f := by
  letI : V.Sig := V.sigOf (sC l m i)
  intro f hf
  simp only [fSame, List.mem_cons, List.not_mem_nil, or_false] at hf
  rcases hf with rfl | rfl | rfl | rfl
  · exact V.okc (k := .i64) (m := i) (n := l.length) rfl rfl (V.c_lssT (by omega))
  · exact V.okc (k := .i64) (m := i) (n := m.length) rfl rfl (V.c_geqF (by omega))
  · exact V.okc (k := .i64) (m := l.getD i 0) (n := l.getD i 0) rfl rfl (V.c_neqF rfl)
  · exact V.okc (k := .i64) (m := m.getD i 0) (n := m.getD i 0) rfl rfl (V.c_neqF rfl)
/-- the state at the head of the loop -/
def HC (l m : List Int) (i : Nat) : V.St := SC (lstV l) (lstV m) (.int .i64 i) (.int .i64 l.length)
theorem inHC (l m : List Int) (i : Nat) : V.inS (sC l m i) hC = HC l m i := by
  rw [hC, inSC]
  simp only [V.inD, sC, HC]
theorem loopC (l m : List Int) (hl : l.length < 100) (hm : m.length < 100) : ∀ k i : Nat, i + k = l.length →
    @V.LRun V.sig0 Try.prog bC (HC l m i) .ret (SR (.int .i64 (lexC (l.drop i) (m.drop i)))) ∨ (@V.LRun V.sig0 Try.prog bC (HC l m i) (.exit 0) (HC l m l.length) ∧ lexC (l.drop i) (m.drop i) = if l.length < m.length then -1 else 0) := by
  intro k
  induction k with
  | zero =>
    intro i hi
    obtain rfl : i = l.length := by omega
    right
    have r := V.Run.ins (plainC l m l.length) (@V.Run.of_uptoD (V.sigOf (sC l m l.length)) _ _ (goodC (f := fX) (g := g0) (by
      letI : V.Sig := V.sigOf (sC l m l.length)
      intro f hf
      simp only [fX, List.mem_cons, List.not_mem_nil, or_false] at hf
      subst hf
      exact V.okc (k := .i64) (m := l.length) (n := l.length) rfl rfl (V.c_lssF (by omega))) (lenOk l m _)) regs follows _ _ _ _ _ _ _ _ regsC.2.1.2 runXx)
    rw [inHC] at r
    exact ⟨V.LRun.out r (by simp), lexC_end (Nat.le_refl _)⟩
  | succ k ih =>
    intro i hi
    have hil : i < l.length := by omega
    by_cases him : i < m.length
    · rw [lexC_drop hil him]
      by_cases h1 : l.getD i 0 < m.getD i 0
      · rw [if_pos h1]
        left
        have r := V.Run.ins (plainC l m i) (@V.Run.of_uptoD (V.sigOf (sC l m i)) _ _ (goodC (f := fL) (g := g2) (by
          letI : V.Sig := V.sigOf (sC l m i)
          intro f hf
          rcases List.mem_append.1 hf with hf | hf
          · exact sameOk l m i hil him f hf
          · simp only [List.mem_cons, List.not_mem_nil, or_false] at hf
            subst hf
            exact V.okc (k := .i64) (m := l.getD i 0) (n := m.getD i 0) rfl rfl (V.c_lssT h1)) (g2Ok l m i hil him)) regs follows _ _ _ _ _ _ _ _ regsC.2.1.2 runL)
        rw [inHC, inSR] at r
        exact V.LRun.out r (by simp)
      · rw [if_neg h1]
        by_cases h2 : l.getD i 0 > m.getD i 0
        · rw [if_pos h2]
          left
          have r := V.Run.ins (plainC l m i) (@V.Run.of_uptoD (V.sigOf (sC l m i)) _ _ (goodC (f := fG) (g := g2) (by
            letI : V.Sig := V.sigOf (sC l m i)
            intro f hf
            rcases List.mem_append.1 hf with hf | hf
            · exact sameOk l m i hil him f hf
            · simp only [List.mem_cons, List.not_mem_nil, or_false] at hf
              rcases hf with rfl | rfl
              · exact V.okc (k := .i64) (m := l.getD i 0) (n := m.getD i 0) rfl rfl (V.c_lssF (by omega))
              · exact V.okc (k := .i64) (m := l.getD i 0) (n := m.getD i 0) rfl rfl (V.c_gtrT h2)) (g2Ok l m i hil him)) regs follows _ _ _ _ _ _ _ _ regsC.2.1.2 runG)
          rw [inHC, inSR] at r
          exact V.LRun.out r (by simp)
        · rw [if_neg h2]
          have r := V.Run.ins (plainC l m i) (@V.Run.of_uptoD (V.sigOf (sC l m i)) _ _ (goodC (f := fE) (g := g2) (by
            letI : V.Sig := V.sigOf (sC l m i)
            intro f hf
            rcases List.mem_append.1 hf with hf | hf
            · exact sameOk l m i hil him f hf
            · simp only [List.mem_cons, List.not_mem_nil, or_false] at hf
              rcases hf with rfl | rfl | rfl
              · exact V.okc (k := .i64) (m := l.getD i 0) (n := m.getD i 0) rfl rfl (V.c_lssF (by omega))
              · exact V.okc (k := .i64) (m := l.getD i 0) (n := m.getD i 0) rfl rfl (V.c_gtrF (by omega))
              · exact V.oka (k := .i64) (m := i) (n := 1) (r := i + 1) rfl rfl (by simp only [V.ariI, V.wr_i64, Option.some.injEq]; omega) rfl) (g2Ok l m i hil him)) regs follows _ _ _ _ _ _ _ _ regsC.2.1.2 runE)
          rw [inHC, inSC] at r
          have r' : @V.Run V.sig0 Try.prog bC (HC l m i) .normal (HC l m (i + 1)) := r
          rcases ih (i + 1) (by omega) with h | ⟨h, he⟩
          · exact .inl (V.LRun.step r' h)
          · exact .inr ⟨V.LRun.step r' h, he⟩
    · rw [lexC_short hil (by omega)]
      left
      have r := V.Run.ins (plainC l m i) (@V.Run.of_uptoD (V.sigOf (sC l m i)) _ _ (goodC (f := fS) (g := g1) (by
        letI : V.Sig := V.sigOf (sC l m i)
        intro f hf
        simp only [fS, List.mem_cons, List.not_mem_nil, or_false] at hf
        rcases hf with rfl | rfl
        · exact V.okc (k := .i64) (m := i) (n := l.length) rfl rfl (V.c_lssT (by omega))
        · exact V.okc (k := .i64) (m := i) (n := m.length) rfl rfl (V.c_geqT (by omega))) (g1Ok l m i hil)) regs follows _ _ _ _ _ _ _ _ regsC.2.1.2 runSh)
      rw [inHC, inSR] at r
      exact V.LRun.out r (by simp)
theorem compared (l m : List Int) (hl : l.length < 100) (hm : m.length < 100) : V.Holds Try.prog 56 [lstV l, lstV m, .fn 13 []] [.int .i64 (lexC l m)] := by
  obtain ⟨q0, ⟨q1, qb⟩, qt⟩ := regsC
  have h0 := V.Run.ins (plainC l m 0) (@V.Run.of_exec (V.sigOf (sC l m 0)) _ _ (goodB (V.sigOf (sC l m 0))) regs follows _ _ _ _ _ q0 runC0)
  have h1 := V.Run.ins (plainC l m 0) (@V.Run.of_uptoD (V.sigOf (sC l m 0)) _ _ (goodC (f := []) (g := g0) (fun _ h => by simp at h) (lenOk l m 0)) regs follows _ _ _ _ _ _ _ _ q1 runC1)
  rw [inSC] at h1
  have h1' : @V.Run V.sig0 Try.prog cC1 (V.inS (sC l m 0) zC1) .normal (HC l m 0) := h1
  have e0 : V.inS (sC l m 0) zC = ⟨[lstV l, lstV m, .fn 13 []].map .dat ++ List.replicate 36 .undef, [], 0⟩ := by
    simp only [zC, V.inS, V.inUs_eq, List.map_append, List.map_cons, List.map_nil, V.inU, V.inD, V.inDs, sC, List.map_replicate, V.inSt]
  rw [e0] at h0
  have fin : @V.Run V.sig0 Try.prog cC ⟨[lstV l, lstV m, .fn 13 []].map .dat ++ List.replicate 36 .undef, [], 0⟩ .ret (SR (.int .i64 (lexC l m))) := by
    rw [shapeC]
    have hd0 : lexC (l.drop 0) (m.drop 0) = lexC l m := by simp
    rcases loopC l m hl hm l.length 0 (by omega) with h | ⟨h, he⟩
    · rw [hd0] at h
      have hb := V.Run.block (id := 0) (V.Run.loop h)
      simp only [reduceCtorEq, if_false] at hb
      exact V.Run.seq h0 (V.Run.seq_out (V.Run.seq h1' hb) (by simp))
    · rw [hd0] at he
      have hb := V.Run.block_to (V.Run.loop h)
      refine V.Run.seq h0 (V.Run.seq (V.Run.seq h1' hb) ?_)
      by_cases hlm : l.length < m.length
      · rw [if_pos hlm] at he
        rw [he]
        have r := V.Run.ins (plainC l m l.length) (@V.Run.of_uptoD (V.sigOf (sC l m l.length)) _ _ (goodC (f := fT true) (g := g0) (by
          letI : V.Sig := V.sigOf (sC l m l.length)
          intro f hf
          simp only [fT, List.mem_cons, List.not_mem_nil, or_false] at hf
          subst hf
          exact V.okc (k := .i64) (m := l.length) (n := m.length) rfl rfl (V.c_lssT (by omega))) (lenOk l m _)) regs follows _ _ _ _ _ _ _ _ qt runT1)
        rw [inHC, inSR] at r
        exact r
      · rw [if_neg hlm] at he
        rw [he]
        have r := V.Run.ins (plainC l m l.length) (@V.Run.of_uptoD (V.sigOf (sC l m l.length)) _ _ (goodC (f := fT false) (g := g0) (by
          letI : V.Sig := V.sigOf (sC l m l.length)
          intro f hf
          simp only [fT, List.mem_cons, List.not_mem_nil, or_false] at hf
          subst hf
          exact V.okc (k := .i64) (m := l.length) (n := m.length) rfl rfl (V.c_lssF (by omega))) (lenOk l m _)) regs follows _ _ _ _ _ _ _ _ qt runT0)
        rw [inHC, inSR] at r
        exact r
  have hh := @V.holds_of_run V.sig0 Try.prog 56 Try.f56 cC Try.func56 bodyC [lstV l, lstV m, .fn 13 []] _ _ fin (.inr rfl) [.dat (.int .i64 (lexC l m))] (by kernel_rfl) [(.int .i64 (lexC l m), [])] rfl
  exact hh

end Go.Proofs.Ytdgihefkagoicaa.Say
