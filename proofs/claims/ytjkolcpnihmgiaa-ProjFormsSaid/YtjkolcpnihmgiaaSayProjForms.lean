/- ProjForms: what V tells of the law, its calls one by one. -/
import Derived.Test.YtjkolcpnihmgiaaChecked
import Derived.Test.YtjkolcpnihmgiaaV18
namespace Go.Proofs.Ytjkolcpnihmgiaa.Say
open Go
open V (D)
theorem named : V.Named Try.prog := by
  have h : Try.prog.funcs.all (fun fn => fn.body.isNone || !(fn.name == "runtime.NumGoroutine")) = true := by kernel_rfl
  intro f fn c hf hc
  have := Array.all_eq_true_iff_forall_mem.1 h fn (Array.mem_of_getElem? hf)
  simpa [hc] using this
theorem regs : V.RegsP Try.prog := V.regs_of_check Try.checked.codeOk
theorem follows : Try.prog.follows .mixedOrders = true := by kernel_rfl
def d0 : V.D := .fp [V.txt [97, 46, 65], .int .i64 3, .int .i64 0, .lst [V.txt [97, 46, 65]], .int .i64 0]
def d1 : V.D := .fp [V.txt [105, 56], .int .i64 2, .int .i64 0, .nil, .int .i64 0]
def d2 : V.D := .agg [.int .i64 12, .int .i64 0, V.txt [], .lst [.agg [.int .i64 3, .int .i64 5, V.txt [], .nil, .nil]], .lst [.int .i64 1]]
def d3 : V.D := .agg [.lst [.agg [.int .i64 4, V.txt [97, 46, 65], .lst [.agg [.int .i64 1, .int .i64 0, V.txt [105, 56], V.txt [], .bool false, .int .i64 0, .int .i64 0, V.txt [], .nil, .nil]]]], .nil, .nil]
def d4 : V.D := .agg [.int .i64 12, .int .i64 0, V.txt [], .lst [.agg [.int .i64 3, .int .i64 5, V.txt [], .nil, .nil], .agg [.int .i64 2, .int .i64 0, V.txt [], .nil, .nil]], .lst [.int .i64 1, .int .i64 2]]
def d5 : V.D := .agg [.int .i64 4, V.txt [97, 46, 65], .lst [.agg [.int .i64 1, .int .i64 0, V.txt [105, 56], V.txt [], .bool false, .int .i64 0, .int .i64 0, V.txt [], .nil, .nil]]]
def d6 : V.D := .fp [V.txt [105, 49, 54], .int .i64 3, .int .i64 0, .nil, .int .i64 0]
def d7 : V.D := .fp [V.txt [115, 116, 114, 105, 110, 103], .int .i64 6, .int .i64 0, .nil, .int .i64 0]
def d8 : V.D := .agg [.lst [.agg [.int .i64 4, V.txt [97, 46, 83], .lst [.agg [.int .i64 1, .int .i64 1, V.txt [105, 56], V.txt [], .bool false, .int .i64 0, .int .i64 0, V.txt [], .nil, .nil]]], .agg [.int .i64 5, V.txt [97, 46, 85], .lst [.agg [.int .i64 1, .int .i64 0, V.txt [105, 56], V.txt [], .bool false, .int .i64 0, .int .i64 0, V.txt [], .nil, .nil], .agg [.int .i64 2, .int .i64 0, V.txt [105, 56], V.txt [], .bool false, .int .i64 0, .int .i64 0, V.txt [], .nil, .nil]]]], .lst [.agg [V.txt [97, 46, 69], .lst [.agg [V.txt [65], .bool true, .int .i64 3]]]], .nil]
def d9 : V.D := .agg [.int .i64 16, .int .i64 0, V.txt [111, 107], .nil, .nil]
def d10 : V.D := .agg [.int .i64 11, .int .i64 0, V.txt [111, 107], .nil, .nil]
def d11 : V.D := .fp [V.txt [98, 105, 110, 97, 114, 121], .int .i64 6, .int .i64 0, .nil, .int .i64 0]
def d12 : V.D := .fp [V.txt [105, 51, 50], .int .i64 3, .int .i64 0, .nil, .int .i64 0]
def d13 : V.D := .fp [V.txt [97, 46, 69], .int .i64 3, .int .i64 0, .lst [V.txt [97, 46, 69]], .int .i64 0]
def d14 : V.D := .fp [V.txt [105, 54, 52], .int .i64 3, .int .i64 0, .nil, .int .i64 0]
def d15 : V.D := .fp [V.txt [108, 105, 115, 116, 60, 97, 46, 69, 62], .int .i64 9, .int .i64 0, .lst [V.txt [97, 46, 69]], .int .i64 1]
def d16 : V.D := .agg [.int .i64 15, .int .i64 0, V.txt [], .lst [.agg [.int .i64 8, .int .i64 3, V.txt [], .nil, .nil], .agg [.int .i64 17, .int .i64 5, V.txt [], .nil, .nil]], .nil]
def d17 : V.D := .fp [V.txt [97, 46, 83], .int .i64 3, .int .i64 0, .lst [V.txt [97, 46, 83]], .int .i64 0]
def d18 : V.D := .agg [.int .i64 12, .int .i64 0, V.txt [], .lst [.agg [.int .i64 3, .int .i64 7, V.txt [], .nil, .nil]], .lst [.int .i64 1]]
def d19 : V.D := .agg [.int .i64 12, .int .i64 0, V.txt [], .lst [.agg [.int .i64 3, .int .i64 7, V.txt [], .nil, .nil], .agg [.int .i64 3, .int .i64 7, V.txt [], .nil, .nil]], .lst [.int .i64 1, .int .i64 9]]
def d20 : V.D := .fp [V.txt [97, 46, 85], .int .i64 3, .int .i64 0, .lst [V.txt [97, 46, 85]], .int .i64 0]
def d21 : V.D := .agg [.int .i64 12, .int .i64 0, V.txt [], .lst [.agg [.int .i64 3, .int .i64 7, V.txt [], .nil, .nil], .agg [.int .i64 3, .int .i64 7, V.txt [], .nil, .nil]], .lst [.int .i64 1, .int .i64 2]]
def d22 : V.D := .fp [V.txt [110, 111, 110, 101], .int .i64 4, .int .i64 0, .lst [V.txt [110, 111, 110, 101]], .int .i64 0]
def d23 : V.D := .fp [V.txt [101, 110, 117, 109], .int .i64 4, .int .i64 0, .lst [V.txt [101, 110, 117, 109]], .int .i64 0]
def a0 : List V.D := [(V.txt [97, 46, 65])]
def r0 : List V.D := [d0, (.int .i64 0), .nil]
def a1 : List V.D := [(V.txt [105, 56])]
def r1 : List V.D := [d1, (.int .i64 3), .nil]
def a2 : List V.D := [d2]
def r2 : List V.D := [d2, (.int .i64 0)]
def a3 : List V.D := [d3, (V.txt [97, 46, 65]), d4]
def r3 : List V.D := [d2, (.int .i64 0)]
def a4 : List V.D := [d3, d5, d4]
def r4 : List V.D := [d2, (.int .i64 0)]
def a5 : List V.D := [(V.txt [105, 49, 54])]
def r5 : List V.D := [d6, (.int .i64 6), .nil]
def a6 : List V.D := [d3, (V.txt [105, 49, 54]), d4]
def r6 : List V.D := [(.agg [.int .i64 0, .int .i64 0, V.txt [], .nil, .nil]), (.int .i64 10)]
def a7 : List V.D := [(V.txt [115, 116, 114, 105, 110, 103])]
def r7 : List V.D := [d7, (.int .i64 11), .nil]
def a8 : List V.D := [d8, (V.txt [115, 116, 114, 105, 110, 103]), d9]
def r8 : List V.D := [d10, (.int .i64 0)]
def a9 : List V.D := [d8, (V.txt [115, 116, 114, 105, 110, 103]), (.agg [.int .i64 16, .int .i64 0, V.txt [255], .nil, .nil])]
def r9 : List V.D := [(.agg [.int .i64 0, .int .i64 0, V.txt [], .nil, .nil]), (.int .i64 2)]
def a10 : List V.D := [(V.txt [98, 105, 110, 97, 114, 121])]
def r10 : List V.D := [d11, (.int .i64 16), .nil]
def a11 : List V.D := [d8, (V.txt [98, 105, 110, 97, 114, 121]), (.agg [.int .i64 11, .int .i64 0, V.txt [97], .nil, .nil])]
def r11 : List V.D := [(.agg [.int .i64 16, .int .i64 0, V.txt [97], .nil, .nil]), (.int .i64 0)]
def a12 : List V.D := [(V.txt [105, 51, 50])]
def r12 : List V.D := [d12, (.int .i64 8), .nil]
def a13 : List V.D := [d8, (V.txt [105, 51, 50]), (.agg [.int .i64 17, .int .i64 9, V.txt [], .nil, .nil])]
def r13 : List V.D := [(.agg [.int .i64 8, .int .i64 9, V.txt [], .nil, .nil]), (.int .i64 0)]
def a14 : List V.D := [(V.txt [97, 46, 69])]
def r14 : List V.D := [d13, (.int .i64 0), .nil]
def a15 : List V.D := [d8, (V.txt [97, 46, 69])]
def r15 : List V.D := [(.int .i64 17)]
def a16 : List V.D := [d8, (V.txt [97, 46, 69]), (.agg [.int .i64 8, .int .i64 3, V.txt [], .nil, .nil])]
def r16 : List V.D := [(.agg [.int .i64 17, .int .i64 3, V.txt [], .nil, .nil]), (.int .i64 0)]
def a17 : List V.D := [d8, (V.txt [97, 46, 69]), (.agg [.int .i64 8, .int .i64 4, V.txt [], .nil, .nil])]
def r17 : List V.D := [(.agg [.int .i64 0, .int .i64 0, V.txt [], .nil, .nil]), (.int .i64 12)]
def a18 : List V.D := [d8, (V.txt [97, 46, 69]), (.agg [.int .i64 17, .int .i64 4, V.txt [], .nil, .nil])]
def r18 : List V.D := [(.agg [.int .i64 0, .int .i64 0, V.txt [], .nil, .nil]), (.int .i64 12)]
def a19 : List V.D := [(V.txt [105, 54, 52])]
def r19 : List V.D := [d14, (.int .i64 10), .nil]
def a20 : List V.D := [d8, (V.txt [105, 54, 52]), (.agg [.int .i64 8, .int .i64 3, V.txt [], .nil, .nil])]
def r20 : List V.D := [(.agg [.int .i64 0, .int .i64 0, V.txt [], .nil, .nil]), (.int .i64 10)]
def a21 : List V.D := [d8, (V.txt [105, 56]), (.agg [.int .i64 3, .int .i64 7, V.txt [], .nil, .nil])]
def r21 : List V.D := [(.agg [.int .i64 3, .int .i64 7, V.txt [], .nil, .nil]), (.int .i64 0)]
def a22 : List V.D := [(V.txt [108, 105, 115, 116, 60, 97, 46, 69, 62])]
def r22 : List V.D := [d15, (.int .i64 15), (.lst [.int .i64 8])]
def a23 : List V.D := [d8, (V.txt [108, 105, 115, 116, 60, 97, 46, 69, 62]), d16]
def r23 : List V.D := [(.agg [.int .i64 0, .int .i64 0, V.txt [], .nil, .nil]), (.int .i64 12)]
def a24 : List V.D := [(V.txt [97, 46, 83])]
def r24 : List V.D := [d17, (.int .i64 0), .nil]
def a25 : List V.D := [d18]
def r25 : List V.D := [d18, (.int .i64 0)]
def a26 : List V.D := [d8, (V.txt [97, 46, 83]), d18]
def r26 : List V.D := [d18, (.int .i64 0)]
def a27 : List V.D := [d8, (V.txt [97, 46, 83]), d19]
def r27 : List V.D := [d18, (.int .i64 0)]
def a28 : List V.D := [d8, (V.txt [97, 46, 83]), (.agg [.int .i64 12, .int .i64 0, V.txt [], .nil, .nil])]
def r28 : List V.D := [(.agg [.int .i64 0, .int .i64 0, V.txt [], .nil, .nil]), (.int .i64 14)]
def a29 : List V.D := [(V.txt [97, 46, 85])]
def r29 : List V.D := [d20, (.int .i64 0), .nil]
def a30 : List V.D := [d8, (V.txt [97, 46, 85]), d18]
def r30 : List V.D := [d18, (.int .i64 0)]
def a31 : List V.D := [d8, (V.txt [97, 46, 85]), d21]
def r31 : List V.D := [(.agg [.int .i64 0, .int .i64 0, V.txt [], .nil, .nil]), (.int .i64 14)]
def a32 : List V.D := [d8, (V.txt [97, 46, 85]), d19]
def r32 : List V.D := [(.agg [.int .i64 0, .int .i64 0, V.txt [], .nil, .nil]), (.int .i64 14)]
def a33 : List V.D := [d8, (V.txt [97, 46, 85]), (.agg [.int .i64 12, .int .i64 0, V.txt [], .nil, .nil])]
def r33 : List V.D := [(.agg [.int .i64 0, .int .i64 0, V.txt [], .nil, .nil]), (.int .i64 14)]
def a34 : List V.D := [(V.txt [110, 111, 110, 101])]
def r34 : List V.D := [d22, (.int .i64 0), .nil]
def a35 : List V.D := [d8, (V.txt [110, 111, 110, 101])]
def r35 : List V.D := [(.int .i64 0)]
def a36 : List V.D := [d8, (V.txt [97, 46, 83]), (.agg [.int .i64 3, .int .i64 7, V.txt [], .nil, .nil])]
def r36 : List V.D := [(.agg [.int .i64 0, .int .i64 0, V.txt [], .nil, .nil]), (.int .i64 10)]
def a37 : List V.D := [(V.txt [101, 110, 117, 109])]
def r37 : List V.D := [d23, (.int .i64 0), .nil]
def a38 : List V.D := [d8, (V.txt [101, 110, 117, 109])]
def r38 : List V.D := [(.int .i64 0)]
def t0 : V.Tbl := []
theorem to0 : V.TblOk Try.prog t0 := V.TblOk.nil
def an0 : V.An := ⟨fun f => [54,56,60,67,69,71,72,78,79,80,82,83,84,85,86,87,88,89,90].contains f, fun f => [].contains f, V.inTbl t0⟩
theorem good0 : V.Good Try.prog an0 := ⟨named, V.spec_of_tbl to0⟩
set_option maxRecDepth 1000000 in
theorem e0 : V.tells Try.prog an0 400 16 a0 r0 = true := by kernel_rfl
theorem h0 : V.Holds Try.prog 16 a0 r0 := V.holds_of_tells good0 regs follows e0
set_option maxRecDepth 1000000 in
theorem e1 : V.tells Try.prog an0 400 16 a1 r1 = true := by kernel_rfl
theorem h1 : V.Holds Try.prog 16 a1 r1 := V.holds_of_tells good0 regs follows e1
set_option maxRecDepth 1000000 in
theorem e2 : V.tells Try.prog an0 400 48 a2 r2 = true := by kernel_rfl
theorem h2 : V.Holds Try.prog 48 a2 r2 := V.holds_of_tells good0 regs follows e2
set_option maxRecDepth 1000000 in
theorem e5 : V.tells Try.prog an0 400 16 a5 r5 = true := by kernel_rfl
theorem h5 : V.Holds Try.prog 16 a5 r5 := V.holds_of_tells good0 regs follows e5
set_option maxRecDepth 1000000 in
theorem e7 : V.tells Try.prog an0 400 16 a7 r7 = true := by kernel_rfl
theorem h7 : V.Holds Try.prog 16 a7 r7 := V.holds_of_tells good0 regs follows e7
set_option maxRecDepth 1000000 in
theorem e10 : V.tells Try.prog an0 400 16 a10 r10 = true := by kernel_rfl
theorem h10 : V.Holds Try.prog 16 a10 r10 := V.holds_of_tells good0 regs follows e10
set_option maxRecDepth 1000000 in
theorem e12 : V.tells Try.prog an0 400 16 a12 r12 = true := by kernel_rfl
theorem h12 : V.Holds Try.prog 16 a12 r12 := V.holds_of_tells good0 regs follows e12
set_option maxRecDepth 1000000 in
theorem e14 : V.tells Try.prog an0 400 16 a14 r14 = true := by kernel_rfl
theorem h14 : V.Holds Try.prog 16 a14 r14 := V.holds_of_tells good0 regs follows e14
set_option maxRecDepth 1000000 in
theorem e19 : V.tells Try.prog an0 400 16 a19 r19 = true := by kernel_rfl
theorem h19 : V.Holds Try.prog 16 a19 r19 := V.holds_of_tells good0 regs follows e19
set_option maxRecDepth 1000000 in
theorem e22 : V.tells Try.prog an0 400 16 a22 r22 = true := by kernel_rfl
theorem h22 : V.Holds Try.prog 16 a22 r22 := V.holds_of_tells good0 regs follows e22
set_option maxRecDepth 1000000 in
theorem e24 : V.tells Try.prog an0 400 16 a24 r24 = true := by kernel_rfl
theorem h24 : V.Holds Try.prog 16 a24 r24 := V.holds_of_tells good0 regs follows e24
set_option maxRecDepth 1000000 in
theorem e25 : V.tells Try.prog an0 400 48 a25 r25 = true := by kernel_rfl
theorem h25 : V.Holds Try.prog 48 a25 r25 := V.holds_of_tells good0 regs follows e25
set_option maxRecDepth 1000000 in
theorem e29 : V.tells Try.prog an0 400 16 a29 r29 = true := by kernel_rfl
theorem h29 : V.Holds Try.prog 16 a29 r29 := V.holds_of_tells good0 regs follows e29
set_option maxRecDepth 1000000 in
theorem e34 : V.tells Try.prog an0 400 16 a34 r34 = true := by kernel_rfl
theorem h34 : V.Holds Try.prog 16 a34 r34 := V.holds_of_tells good0 regs follows e34
set_option maxRecDepth 1000000 in
theorem e37 : V.tells Try.prog an0 400 16 a37 r37 = true := by kernel_rfl
theorem h37 : V.Holds Try.prog 16 a37 r37 := V.holds_of_tells good0 regs follows e37
def t1 : V.Tbl := [(16, [(a0, r0), (a1, r1), (a5, r5), (a7, r7), (a10, r10), (a12, r12), (a14, r14), (a19, r19), (a22, r22), (a24, r24), (a29, r29), (a34, r34), (a37, r37)]), (48, [(a2, r2), (a25, r25)])]
theorem to1 : V.TblOk Try.prog t1 := (V.TblOk.cons (V.RowOk.cons h0 (V.RowOk.cons h1 (V.RowOk.cons h5 (V.RowOk.cons h7 (V.RowOk.cons h10 (V.RowOk.cons h12 (V.RowOk.cons h14 (V.RowOk.cons h19 (V.RowOk.cons h22 (V.RowOk.cons h24 (V.RowOk.cons h29 (V.RowOk.cons h34 (V.RowOk.cons h37 V.RowOk.nil))))))))))))) (V.TblOk.cons (V.RowOk.cons h2 (V.RowOk.cons h25 V.RowOk.nil)) V.TblOk.nil))
def an1 : V.An := ⟨fun f => [54,56,60,67,69,71,72,78,79,80,82,83,84,85,86,87,88,89,90].contains f, fun f => [].contains f, V.inTbl t1⟩
theorem good1 : V.Good Try.prog an1 := ⟨named, V.spec_of_tbl to1⟩
set_option maxRecDepth 1000000 in
theorem e3 : V.tells Try.prog an1 400 6 a3 r3 = true := by kernel_rfl
theorem h3 : V.Holds Try.prog 6 a3 r3 := V.holds_of_tells good1 regs follows e3
set_option maxRecDepth 1000000 in
theorem e4 : V.tells Try.prog an1 400 7 a4 r4 = true := by kernel_rfl
theorem h4 : V.Holds Try.prog 7 a4 r4 := V.holds_of_tells good1 regs follows e4
set_option maxRecDepth 1000000 in
theorem e6 : V.tells Try.prog an1 400 6 a6 r6 = true := by kernel_rfl
theorem h6 : V.Holds Try.prog 6 a6 r6 := V.holds_of_tells good1 regs follows e6
set_option maxRecDepth 1000000 in
theorem e8 : V.tells Try.prog an1 400 6 a8 r8 = true := by kernel_rfl
theorem h8 : V.Holds Try.prog 6 a8 r8 := V.holds_of_tells good1 regs follows e8
set_option maxRecDepth 1000000 in
theorem e9 : V.tells Try.prog an1 400 6 a9 r9 = true := by kernel_rfl
theorem h9 : V.Holds Try.prog 6 a9 r9 := V.holds_of_tells good1 regs follows e9
set_option maxRecDepth 1000000 in
theorem e11 : V.tells Try.prog an1 400 6 a11 r11 = true := by kernel_rfl
theorem h11 : V.Holds Try.prog 6 a11 r11 := V.holds_of_tells good1 regs follows e11
set_option maxRecDepth 1000000 in
theorem e13 : V.tells Try.prog an1 400 6 a13 r13 = true := by kernel_rfl
theorem h13 : V.Holds Try.prog 6 a13 r13 := V.holds_of_tells good1 regs follows e13
set_option maxRecDepth 1000000 in
theorem e15 : V.tells Try.prog an1 400 13 a15 r15 = true := by kernel_rfl
theorem h15 : V.Holds Try.prog 13 a15 r15 := V.holds_of_tells good1 regs follows e15
set_option maxRecDepth 1000000 in
theorem e20 : V.tells Try.prog an1 400 6 a20 r20 = true := by kernel_rfl
theorem h20 : V.Holds Try.prog 6 a20 r20 := V.holds_of_tells good1 regs follows e20
set_option maxRecDepth 1000000 in
theorem e21 : V.tells Try.prog an1 400 6 a21 r21 = true := by kernel_rfl
theorem h21 : V.Holds Try.prog 6 a21 r21 := V.holds_of_tells good1 regs follows e21
set_option maxRecDepth 1000000 in
theorem e26 : V.tells Try.prog an1 400 6 a26 r26 = true := by kernel_rfl
theorem h26 : V.Holds Try.prog 6 a26 r26 := V.holds_of_tells good1 regs follows e26
set_option maxRecDepth 1000000 in
theorem e27 : V.tells Try.prog an1 400 6 a27 r27 = true := by kernel_rfl
theorem h27 : V.Holds Try.prog 6 a27 r27 := V.holds_of_tells good1 regs follows e27
set_option maxRecDepth 1000000 in
theorem e28 : V.tells Try.prog an1 400 6 a28 r28 = true := by kernel_rfl
theorem h28 : V.Holds Try.prog 6 a28 r28 := V.holds_of_tells good1 regs follows e28
set_option maxRecDepth 1000000 in
theorem e30 : V.tells Try.prog an1 400 6 a30 r30 = true := by kernel_rfl
theorem h30 : V.Holds Try.prog 6 a30 r30 := V.holds_of_tells good1 regs follows e30
set_option maxRecDepth 1000000 in
theorem e31 : V.tells Try.prog an1 400 6 a31 r31 = true := by kernel_rfl
theorem h31 : V.Holds Try.prog 6 a31 r31 := V.holds_of_tells good1 regs follows e31
set_option maxRecDepth 1000000 in
theorem e32 : V.tells Try.prog an1 400 6 a32 r32 = true := by kernel_rfl
theorem h32 : V.Holds Try.prog 6 a32 r32 := V.holds_of_tells good1 regs follows e32
set_option maxRecDepth 1000000 in
theorem e33 : V.tells Try.prog an1 400 6 a33 r33 = true := by kernel_rfl
theorem h33 : V.Holds Try.prog 6 a33 r33 := V.holds_of_tells good1 regs follows e33
set_option maxRecDepth 1000000 in
theorem e35 : V.tells Try.prog an1 400 13 a35 r35 = true := by kernel_rfl
theorem h35 : V.Holds Try.prog 13 a35 r35 := V.holds_of_tells good1 regs follows e35
set_option maxRecDepth 1000000 in
theorem e36 : V.tells Try.prog an1 400 6 a36 r36 = true := by kernel_rfl
theorem h36 : V.Holds Try.prog 6 a36 r36 := V.holds_of_tells good1 regs follows e36
set_option maxRecDepth 1000000 in
theorem e38 : V.tells Try.prog an1 400 13 a38 r38 = true := by kernel_rfl
theorem h38 : V.Holds Try.prog 13 a38 r38 := V.holds_of_tells good1 regs follows e38
def t2 : V.Tbl := [(16, [(a0, r0), (a1, r1), (a5, r5), (a7, r7), (a10, r10), (a12, r12), (a14, r14), (a19, r19), (a22, r22), (a24, r24), (a29, r29), (a34, r34), (a37, r37)]), (48, [(a2, r2), (a25, r25)]), (6, [(a3, r3), (a6, r6), (a8, r8), (a9, r9), (a11, r11), (a13, r13), (a20, r20), (a21, r21), (a26, r26), (a27, r27), (a28, r28), (a30, r30), (a31, r31), (a32, r32), (a33, r33), (a36, r36)]), (7, [(a4, r4)]), (13, [(a15, r15), (a35, r35), (a38, r38)])]
theorem to2 : V.TblOk Try.prog t2 := (V.TblOk.cons (V.RowOk.cons h0 (V.RowOk.cons h1 (V.RowOk.cons h5 (V.RowOk.cons h7 (V.RowOk.cons h10 (V.RowOk.cons h12 (V.RowOk.cons h14 (V.RowOk.cons h19 (V.RowOk.cons h22 (V.RowOk.cons h24 (V.RowOk.cons h29 (V.RowOk.cons h34 (V.RowOk.cons h37 V.RowOk.nil))))))))))))) (V.TblOk.cons (V.RowOk.cons h2 (V.RowOk.cons h25 V.RowOk.nil)) (V.TblOk.cons (V.RowOk.cons h3 (V.RowOk.cons h6 (V.RowOk.cons h8 (V.RowOk.cons h9 (V.RowOk.cons h11 (V.RowOk.cons h13 (V.RowOk.cons h20 (V.RowOk.cons h21 (V.RowOk.cons h26 (V.RowOk.cons h27 (V.RowOk.cons h28 (V.RowOk.cons h30 (V.RowOk.cons h31 (V.RowOk.cons h32 (V.RowOk.cons h33 (V.RowOk.cons h36 V.RowOk.nil)))))))))))))))) (V.TblOk.cons (V.RowOk.cons h4 V.RowOk.nil) (V.TblOk.cons (V.RowOk.cons h15 (V.RowOk.cons h35 (V.RowOk.cons h38 V.RowOk.nil))) V.TblOk.nil)))))
def an2 : V.An := ⟨fun f => [54,56,60,67,69,71,72,78,79,80,82,83,84,85,86,87,88,89,90].contains f, fun f => [].contains f, V.inTbl t2⟩
theorem good2 : V.Good Try.prog an2 := ⟨named, V.spec_of_tbl to2⟩
set_option maxRecDepth 1000000 in
theorem e16 : V.tells Try.prog an2 400 6 a16 r16 = true := by kernel_rfl
theorem h16 : V.Holds Try.prog 6 a16 r16 := V.holds_of_tells good2 regs follows e16
set_option maxRecDepth 1000000 in
theorem e17 : V.tells Try.prog an2 400 6 a17 r17 = true := by kernel_rfl
theorem h17 : V.Holds Try.prog 6 a17 r17 := V.holds_of_tells good2 regs follows e17
set_option maxRecDepth 1000000 in
theorem e18 : V.tells Try.prog an2 400 6 a18 r18 = true := by kernel_rfl
theorem h18 : V.Holds Try.prog 6 a18 r18 := V.holds_of_tells good2 regs follows e18
set_option maxRecDepth 1000000 in
theorem e23 : V.tells Try.prog an2 400 6 a23 r23 = true := by kernel_rfl
theorem h23 : V.Holds Try.prog 6 a23 r23 := V.holds_of_tells good2 regs follows e23
def t3 : V.Tbl := [(16, [(a0, r0), (a1, r1), (a5, r5), (a7, r7), (a10, r10), (a12, r12), (a14, r14), (a19, r19), (a22, r22), (a24, r24), (a29, r29), (a34, r34), (a37, r37)]), (48, [(a2, r2), (a25, r25)]), (6, [(a3, r3), (a6, r6), (a8, r8), (a9, r9), (a11, r11), (a13, r13), (a16, r16), (a17, r17), (a18, r18), (a20, r20), (a21, r21), (a23, r23), (a26, r26), (a27, r27), (a28, r28), (a30, r30), (a31, r31), (a32, r32), (a33, r33), (a36, r36)]), (7, [(a4, r4)]), (13, [(a15, r15), (a35, r35), (a38, r38)])]
theorem to3 : V.TblOk Try.prog t3 := (V.TblOk.cons (V.RowOk.cons h0 (V.RowOk.cons h1 (V.RowOk.cons h5 (V.RowOk.cons h7 (V.RowOk.cons h10 (V.RowOk.cons h12 (V.RowOk.cons h14 (V.RowOk.cons h19 (V.RowOk.cons h22 (V.RowOk.cons h24 (V.RowOk.cons h29 (V.RowOk.cons h34 (V.RowOk.cons h37 V.RowOk.nil))))))))))))) (V.TblOk.cons (V.RowOk.cons h2 (V.RowOk.cons h25 V.RowOk.nil)) (V.TblOk.cons (V.RowOk.cons h3 (V.RowOk.cons h6 (V.RowOk.cons h8 (V.RowOk.cons h9 (V.RowOk.cons h11 (V.RowOk.cons h13 (V.RowOk.cons h16 (V.RowOk.cons h17 (V.RowOk.cons h18 (V.RowOk.cons h20 (V.RowOk.cons h21 (V.RowOk.cons h23 (V.RowOk.cons h26 (V.RowOk.cons h27 (V.RowOk.cons h28 (V.RowOk.cons h30 (V.RowOk.cons h31 (V.RowOk.cons h32 (V.RowOk.cons h33 (V.RowOk.cons h36 V.RowOk.nil)))))))))))))))))))) (V.TblOk.cons (V.RowOk.cons h4 V.RowOk.nil) (V.TblOk.cons (V.RowOk.cons h15 (V.RowOk.cons h35 (V.RowOk.cons h38 V.RowOk.nil))) V.TblOk.nil)))))
def an3 : V.An := ⟨fun f => [54,56,60,67,69,71,72,78,79,80,82,83,84,85,86,87,88,89,90].contains f, fun f => [].contains f, V.inTbl t3⟩
theorem good3 : V.Good Try.prog an3 := ⟨named, V.spec_of_tbl to3⟩
set_option maxRecDepth 1000000 in
theorem ProjForms : ∃ k, V.yes (V.pcall Try.prog an3 k 3 [] [] 0) = true := ⟨400, by kernel_rfl⟩
theorem good : V.Good Try.prog an3 := good3
end Go.Proofs.Ytjkolcpnihmgiaa.Say
