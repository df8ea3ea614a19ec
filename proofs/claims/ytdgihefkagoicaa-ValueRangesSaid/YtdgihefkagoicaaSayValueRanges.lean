/- ValueRanges: what V tells of the law, its cases one by one. -/
import Derived.Test.YtdgihefkagoicaaChecked
import Derived.Test.YtdgihefkagoicaaV21
set_option linter.unusedVariables false
set_option linter.unusedSimpArgs false
namespace Go.Proofs.Ytdgihefkagoicaa.Say
open Go Go.RowKit
open V (D)
instance : V.Sig := V.sig0
theorem named : V.Named Try.prog := by
  have h : Try.prog.funcs.all (fun fn => fn.body.isNone || !(fn.name == "runtime.NumGoroutine")) = true := by kernel_rfl
  intro f fn c hf hc
  have := Array.all_eq_true_iff_forall_mem.1 h fn (Array.mem_of_getElem? hf)
  simpa [hc] using this
theorem regs : V.RegsP Try.prog := V.regs_of_check Try.checked.codeOk
theorem follows : Try.prog.follows .mixedOrders = true := by kernel_rfl
def d0 : V.D := .fp [V.txt [97, 46, 65], .int .i64 3, .int .i64 0, .lst [V.txt [97, 46, 65]], .int .i64 0]
def d1 : V.D := .fp [V.txt [105, 56], .int .i64 2, .int .i64 0, .nil, .int .i64 0]
def d2 : V.D := .agg [.lst [.agg [.int .i64 4, V.txt [97, 46, 65], .lst [.agg [.int .i64 1, .int .i64 1, V.txt [105, 56], V.txt [], .bool false, .int .i64 0, .int .i64 0, V.txt [], .nil, .nil]]]], .nil, .nil]
def d3 : V.D := .agg [.int .i64 4, V.txt [97, 46, 65], .lst [.agg [.int .i64 1, .int .i64 1, V.txt [105, 56], V.txt [], .bool false, .int .i64 0, .int .i64 0, V.txt [], .nil, .nil]]]
def d4 : V.D := .agg [.int .i64 12, .int .i64 0, V.txt [], .lst [.agg [.int .i64 3, .int .i64 5, V.txt [], .nil, .nil]], .lst [.int .i64 1]]
def d5 : V.D := .fp [V.txt [98, 111, 111, 108], .int .i64 4, .int .i64 0, .nil, .int .i64 0]
def d6 : V.D := .fp [V.txt [105, 49, 54], .int .i64 3, .int .i64 0, .nil, .int .i64 0]
def d7 : V.D := .fp [V.txt [105, 51, 50], .int .i64 3, .int .i64 0, .nil, .int .i64 0]
def d8 : V.D := .fp [V.txt [105, 54, 52], .int .i64 3, .int .i64 0, .nil, .int .i64 0]
def d9 : V.D := .fp [V.txt [100, 111, 117, 98, 108, 101], .int .i64 6, .int .i64 0, .nil, .int .i64 0]
def d10 : V.D := .fp [V.txt [97, 46, 69], .int .i64 3, .int .i64 0, .lst [V.txt [97, 46, 69]], .int .i64 0]
def d11 : V.D := .agg [.nil, .lst [.agg [V.txt [97, 46, 69], .lst [.agg [V.txt [65], .bool true, .int .i64 3], .agg [V.txt [66], .bool true, .int .i64 9]]]], .nil]
def a0 : List V.D := [(V.txt [97, 46, 65])]
def r0 : List V.D := [d0, (.int .i64 0), .nil]
def a1 : List V.D := [(V.txt [105, 56])]
def r1 : List V.D := [d1, (.int .i64 3), .nil]
def a2 : List V.D := [d2, d3, d4]
def r2 : List V.D := [(.bool true)]
def a3 : List V.D := [d2, (V.txt [97, 46, 65]), d4]
def r3 : List V.D := [(.bool true)]
def a4 : List V.D := []
def r4 : List V.D := [(.bool true)]
def a5 : List V.D := [(V.txt [98, 111, 111, 108])]
def r5 : List V.D := [d5, (.int .i64 2), .nil]
def a6 : List V.D := [(V.txt [105, 49, 54])]
def r6 : List V.D := [d6, (.int .i64 6), .nil]
def a7 : List V.D := [(V.txt [105, 51, 50])]
def r7 : List V.D := [d7, (.int .i64 8), .nil]
def a8 : List V.D := [(V.txt [105, 54, 52])]
def r8 : List V.D := [d8, (.int .i64 10), .nil]
def a9 : List V.D := [(V.txt [100, 111, 117, 98, 108, 101])]
def r9 : List V.D := [d9, (.int .i64 4), .nil]
def a10 : List V.D := [(V.txt [97, 46, 69])]
def r10 : List V.D := [d10, (.int .i64 0), .nil]
def a11 : List V.D := [d11, (V.txt [97, 46, 69]), (.agg [.int .i64 17, .int .i64 0, V.txt [], .nil, .nil])]
def r11 : List V.D := [(.bool false)]
def a12 : List V.D := [d11, (V.txt [97, 46, 69]), (.agg [.int .i64 11, .int .i64 0, V.txt [], .nil, .nil])]
def r12 : List V.D := [(.bool false)]
def a13 : List V.D := [d11, (V.txt [97, 46, 69]), (.agg [.int .i64 17, .int .i64 1, V.txt [], .nil, .nil])]
def r13 : List V.D := [(.bool false)]
def a14 : List V.D := [d11, (V.txt [97, 46, 69]), (.agg [.int .i64 17, .int .i64 3, V.txt [], .nil, .nil])]
def r14 : List V.D := [(.bool true)]
def a15 : List V.D := [d11, (V.txt [97, 46, 69]), (.agg [.int .i64 17, .int .i64 9, V.txt [], .nil, .nil])]
def r15 : List V.D := [(.bool true)]
def t0 : V.Tbl := []
theorem to0 : V.TblOk Try.prog t0 := V.TblOk.nil
def an0 : V.An := { io := fun f => [71,72,86,87,89,92,93,94,95,96,97,98,99,100,101,102,103,104,105].contains f, ownRes := fun f => [51].contains f, spec := V.inTbl t0 }
theorem good0 : V.Good Try.prog an0 := ⟨named, V.spec_of_tbl to0, fun _ _ _ _ h => nomatch h⟩
set_option maxRecDepth 1000000 in
theorem e0 : V.tells Try.prog an0 400 45 a0 r0 = true := by kernel_rfl
theorem h0 : V.Holds Try.prog 45 a0 r0 := V.holds_of_tells good0 regs follows e0
set_option maxRecDepth 1000000 in
theorem e1 : V.tells Try.prog an0 400 45 a1 r1 = true := by kernel_rfl
theorem h1 : V.Holds Try.prog 45 a1 r1 := V.holds_of_tells good0 regs follows e1
set_option maxRecDepth 1000000 in
theorem e5 : V.tells Try.prog an0 400 45 a5 r5 = true := by kernel_rfl
theorem h5 : V.Holds Try.prog 45 a5 r5 := V.holds_of_tells good0 regs follows e5
set_option maxRecDepth 1000000 in
theorem e6 : V.tells Try.prog an0 400 45 a6 r6 = true := by kernel_rfl
theorem h6 : V.Holds Try.prog 45 a6 r6 := V.holds_of_tells good0 regs follows e6
set_option maxRecDepth 1000000 in
theorem e7 : V.tells Try.prog an0 400 45 a7 r7 = true := by kernel_rfl
theorem h7 : V.Holds Try.prog 45 a7 r7 := V.holds_of_tells good0 regs follows e7
set_option maxRecDepth 1000000 in
theorem e8 : V.tells Try.prog an0 400 45 a8 r8 = true := by kernel_rfl
theorem h8 : V.Holds Try.prog 45 a8 r8 := V.holds_of_tells good0 regs follows e8
set_option maxRecDepth 1000000 in
theorem e9 : V.tells Try.prog an0 400 45 a9 r9 = true := by kernel_rfl
theorem h9 : V.Holds Try.prog 45 a9 r9 := V.holds_of_tells good0 regs follows e9
set_option maxRecDepth 1000000 in
theorem e10 : V.tells Try.prog an0 400 45 a10 r10 = true := by kernel_rfl
theorem h10 : V.Holds Try.prog 45 a10 r10 := V.holds_of_tells good0 regs follows e10
def t1 : V.Tbl := [(45, [(a0, r0), (a1, r1), (a5, r5), (a6, r6), (a7, r7), (a8, r8), (a9, r9), (a10, r10)])]
theorem to1 : V.TblOk Try.prog t1 := (V.TblOk.cons (V.RowOk.cons h0 (V.RowOk.cons h1 (V.RowOk.cons h5 (V.RowOk.cons h6 (V.RowOk.cons h7 (V.RowOk.cons h8 (V.RowOk.cons h9 (V.RowOk.cons h10 V.RowOk.nil)))))))) V.TblOk.nil)
def an1 : V.An := { io := fun f => [71,72,86,87,89,92,93,94,95,96,97,98,99,100,101,102,103,104,105].contains f, ownRes := fun f => [51].contains f, spec := V.inTbl t1 }
theorem good1 : V.Good Try.prog an1 := ⟨named, V.spec_of_tbl to1, fun _ _ _ _ h => nomatch h⟩
set_option maxRecDepth 1000000 in
theorem e2 : V.tells Try.prog an1 400 18 a2 r2 = true := by kernel_rfl
theorem h2 : V.Holds Try.prog 18 a2 r2 := V.holds_of_tells good1 regs follows e2
set_option maxRecDepth 1000000 in
theorem e11 : V.tells Try.prog an1 400 8 a11 r11 = true := by kernel_rfl
theorem h11 : V.Holds Try.prog 8 a11 r11 := V.holds_of_tells good1 regs follows e11
set_option maxRecDepth 1000000 in
theorem e12 : V.tells Try.prog an1 400 8 a12 r12 = true := by kernel_rfl
theorem h12 : V.Holds Try.prog 8 a12 r12 := V.holds_of_tells good1 regs follows e12
set_option maxRecDepth 1000000 in
theorem e13 : V.tells Try.prog an1 400 8 a13 r13 = true := by kernel_rfl
theorem h13 : V.Holds Try.prog 8 a13 r13 := V.holds_of_tells good1 regs follows e13
set_option maxRecDepth 1000000 in
theorem e14 : V.tells Try.prog an1 400 8 a14 r14 = true := by kernel_rfl
theorem h14 : V.Holds Try.prog 8 a14 r14 := V.holds_of_tells good1 regs follows e14
set_option maxRecDepth 1000000 in
theorem e15 : V.tells Try.prog an1 400 8 a15 r15 = true := by kernel_rfl
theorem h15 : V.Holds Try.prog 8 a15 r15 := V.holds_of_tells good1 regs follows e15
def t2 : V.Tbl := [(45, [(a0, r0), (a1, r1), (a5, r5), (a6, r6), (a7, r7), (a8, r8), (a9, r9), (a10, r10)]), (18, [(a2, r2)]), (8, [(a11, r11), (a12, r12), (a13, r13), (a14, r14), (a15, r15)])]
theorem to2 : V.TblOk Try.prog t2 := (V.TblOk.cons (V.RowOk.cons h0 (V.RowOk.cons h1 (V.RowOk.cons h5 (V.RowOk.cons h6 (V.RowOk.cons h7 (V.RowOk.cons h8 (V.RowOk.cons h9 (V.RowOk.cons h10 V.RowOk.nil)))))))) (V.TblOk.cons (V.RowOk.cons h2 V.RowOk.nil) (V.TblOk.cons (V.RowOk.cons h11 (V.RowOk.cons h12 (V.RowOk.cons h13 (V.RowOk.cons h14 (V.RowOk.cons h15 V.RowOk.nil))))) V.TblOk.nil)))
def an2 : V.An := { io := fun f => [71,72,86,87,89,92,93,94,95,96,97,98,99,100,101,102,103,104,105].contains f, ownRes := fun f => [51].contains f, spec := V.inTbl t2 }
theorem good2 : V.Good Try.prog an2 := ⟨named, V.spec_of_tbl to2, fun _ _ _ _ h => nomatch h⟩
set_option maxRecDepth 1000000 in
theorem e3 : V.tells Try.prog an2 400 8 a3 r3 = true := by kernel_rfl
theorem h3 : V.Holds Try.prog 8 a3 r3 := V.holds_of_tells good2 regs follows e3
def t3 : V.Tbl := [(45, [(a0, r0), (a1, r1), (a5, r5), (a6, r6), (a7, r7), (a8, r8), (a9, r9), (a10, r10)]), (18, [(a2, r2)]), (8, [(a3, r3), (a11, r11), (a12, r12), (a13, r13), (a14, r14), (a15, r15)])]
theorem to3 : V.TblOk Try.prog t3 := (V.TblOk.cons (V.RowOk.cons h0 (V.RowOk.cons h1 (V.RowOk.cons h5 (V.RowOk.cons h6 (V.RowOk.cons h7 (V.RowOk.cons h8 (V.RowOk.cons h9 (V.RowOk.cons h10 V.RowOk.nil)))))))) (V.TblOk.cons (V.RowOk.cons h2 V.RowOk.nil) (V.TblOk.cons (V.RowOk.cons h3 (V.RowOk.cons h11 (V.RowOk.cons h12 (V.RowOk.cons h13 (V.RowOk.cons h14 (V.RowOk.cons h15 V.RowOk.nil)))))) V.TblOk.nil)))
def an3 : V.An := { io := fun f => [71,72,86,87,89,92,93,94,95,96,97,98,99,100,101,102,103,104,105].contains f, ownRes := fun f => [51].contains f, spec := V.inTbl t3 }
theorem good3 : V.Good Try.prog an3 := ⟨named, V.spec_of_tbl to3, fun _ _ _ _ h => nomatch h⟩
set_option maxRecDepth 1000000 in
theorem e4 : V.tells Try.prog an3 400 7 a4 r4 = true := by kernel_rfl
theorem h4 : V.Holds Try.prog 7 a4 r4 := V.holds_of_tells good3 regs follows e4
def t4 : V.Tbl := [(45, [(a0, r0), (a1, r1), (a5, r5), (a6, r6), (a7, r7), (a8, r8), (a9, r9), (a10, r10)]), (18, [(a2, r2)]), (8, [(a3, r3), (a11, r11), (a12, r12), (a13, r13), (a14, r14), (a15, r15)]), (7, [(a4, r4)])]
theorem to4 : V.TblOk Try.prog t4 := (V.TblOk.cons (V.RowOk.cons h0 (V.RowOk.cons h1 (V.RowOk.cons h5 (V.RowOk.cons h6 (V.RowOk.cons h7 (V.RowOk.cons h8 (V.RowOk.cons h9 (V.RowOk.cons h10 V.RowOk.nil)))))))) (V.TblOk.cons (V.RowOk.cons h2 V.RowOk.nil) (V.TblOk.cons (V.RowOk.cons h3 (V.RowOk.cons h11 (V.RowOk.cons h12 (V.RowOk.cons h13 (V.RowOk.cons h14 (V.RowOk.cons h15 V.RowOk.nil)))))) (V.TblOk.cons (V.RowOk.cons h4 V.RowOk.nil) V.TblOk.nil))))
def an4 : V.An := { io := fun f => [71,72,86,87,89,92,93,94,95,96,97,98,99,100,101,102,103,104,105].contains f, ownRes := fun f => [51].contains f, spec := V.inTbl t4 }
theorem good4 : V.Good Try.prog an4 := ⟨named, V.spec_of_tbl to4, fun _ _ _ _ h => nomatch h⟩
theorem tno : V.tblNo t4 = true := by kernel_rfl
set_option maxRecDepth 1000000 in
theorem run0 : V.yes (V.pcall Try.prog an4 400 3 [.dat (.int .i64 0)] [] 0) = true := by kernel_rfl
theorem case0 (a0 : Int) (W : World) (h : a0 = 0) (w0 : (Lit.int .i64 a0).wf = true) : Calls Try.prog 3 #[.int .i64 a0] W (fun e W' => e = .returned (.bool true) ∧ Below W.heap.size W W') := by
  obtain rfl : a0 = 0 := by first | omega | simp_all
  exact V.law_calls good4 regs follows run0 (V.args_cons (.int _ _) V.args_nil)
set_option maxRecDepth 1000000 in
theorem run1 : V.yes (V.pcall Try.prog an4 400 3 [.dat (.int .i64 1)] [] 0) = true := by kernel_rfl
theorem case1 (a0 : Int) (W : World) (h : a0 = 1) (w0 : (Lit.int .i64 a0).wf = true) : Calls Try.prog 3 #[.int .i64 a0] W (fun e W' => e = .returned (.bool true) ∧ Below W.heap.size W W') := by
  obtain rfl : a0 = 1 := by first | omega | simp_all
  exact V.law_calls good4 regs follows run1 (V.args_cons (.int _ _) V.args_nil)
set_option maxRecDepth 1000000 in
theorem run2 : V.yes (V.pcall Try.prog an4 400 3 [.dat (.int .i64 3)] [] 0) = true := by kernel_rfl
theorem case2 (a0 : Int) (W : World) (h : a0 = 3) (w0 : (Lit.int .i64 a0).wf = true) : Calls Try.prog 3 #[.int .i64 a0] W (fun e W' => e = .returned (.bool true) ∧ Below W.heap.size W W') := by
  obtain rfl : a0 = 3 := by first | omega | simp_all
  exact V.law_calls good4 regs follows run2 (V.args_cons (.int _ _) V.args_nil)
set_option maxRecDepth 1000000 in
theorem run3 : V.yes (V.pcall Try.prog an4 400 3 [.dat (.int .i64 9)] [] 0) = true := by kernel_rfl
theorem case3 (a0 : Int) (W : World) (h : a0 = 9) (w0 : (Lit.int .i64 a0).wf = true) : Calls Try.prog 3 #[.int .i64 a0] W (fun e W' => e = .returned (.bool true) ∧ Below W.heap.size W W') := by
  obtain rfl : a0 = 9 := by first | omega | simp_all
  exact V.law_calls good4 regs follows run3 (V.args_cons (.int _ _) V.args_nil)
def sg4 (a0 : Int) : Nat → V.D
  | 0 => .int .i64 a0
  | 1 => .int .i8 (IntKind.wrap .i8 a0)
  | 2 => .int .i64 (IntKind.wrap .i64 (IntKind.wrap .i8 a0))
  | 3 => .int .i16 (IntKind.wrap .i16 a0)
  | 4 => .int .i64 (IntKind.wrap .i64 (IntKind.wrap .i16 a0))
  | 5 => .int .i32 (IntKind.wrap .i32 a0)
  | 6 => .int .i64 (IntKind.wrap .i64 (IntKind.wrap .i32 a0))
  | _ => .nil
def fa4 : List V.Fact := [.cmp .eql (.sym 0) (.int .i64 0) false, .cmp .eql (.sym 0) (.int .i64 1) false, .conv 2 35 (.sym 0) (.sym 1), .conv 35 2 (.sym 1) (.sym 2), .cmp .eql (.sym 0) (.sym 2) true, .conv 2 36 (.sym 0) (.sym 3), .conv 36 2 (.sym 3) (.sym 4), .cmp .eql (.sym 0) (.sym 4) true, .conv 2 21 (.sym 0) (.sym 5), .conv 21 2 (.sym 5) (.sym 6), .cmp .eql (.sym 0) (.sym 6) true, .cmp .eql (.sym 0) (.int .i64 3) false, .cmp .eql (.sym 0) (.int .i64 9) false, .cmp .eql (.int .i64 3) (.sym 0) false, .cmp .eql (.int .i64 9) (.sym 0) false]
theorem fo4 (a0 : Int) (h : a0 ≠ 0 ∧ a0 ≠ 1 ∧ a0 ≠ 3 ∧ a0 ≠ 9 ∧ -128 ≤ a0 ∧ a0 ≤ 127) (w0 : (Lit.int .i64 a0).wf = true) : ∀ f ∈ fa4, @V.Fact.ok (V.sigOf (sg4 a0)) Try.prog f := by
  have b0 := V.wf_int w0
  letI : V.Sig := V.sigOf (sg4 a0)
  simp only [IntKind.min, IntKind.max, IntKind.signed, IntKind.bits] at *
  intro f hf
  simp only [fa4, List.mem_cons, List.not_mem_nil, or_false] at hf
  rcases hf with rfl | rfl | rfl | rfl | rfl | rfl | rfl | rfl | rfl | rfl | rfl | rfl | rfl | rfl | rfl
  · exact V.okc (k := .i64) (m := a0) (n := 0) rfl rfl (V.c_eqlF (by first | omega | (simp only [V.wr_i8, V.wr_i16, V.wr_i32, V.wr_i64, V.wr_u8, V.wr_u16, V.wr_u32, V.wr_u64]; omega)))
  · exact V.okc (k := .i64) (m := a0) (n := 1) rfl rfl (V.c_eqlF (by first | omega | (simp only [V.wr_i8, V.wr_i16, V.wr_i32, V.wr_i64, V.wr_u8, V.wr_u16, V.wr_u32, V.wr_u64]; omega)))
  · exact V.okv (k := .i64) (j := .i8) (n := a0) Try.underlying2 rfl Try.underlying35 rfl
  · exact V.okv (k := .i8) (j := .i64) (n := (IntKind.wrap .i8 a0)) Try.underlying35 rfl Try.underlying2 rfl
  · exact V.okc (k := .i64) (m := a0) (n := (IntKind.wrap .i64 (IntKind.wrap .i8 a0))) rfl rfl (V.c_eqlT (by first | omega | (simp only [V.wr_i8, V.wr_i16, V.wr_i32, V.wr_i64, V.wr_u8, V.wr_u16, V.wr_u32, V.wr_u64]; omega)))
  · exact V.okv (k := .i64) (j := .i16) (n := a0) Try.underlying2 rfl Try.underlying36 rfl
  · exact V.okv (k := .i16) (j := .i64) (n := (IntKind.wrap .i16 a0)) Try.underlying36 rfl Try.underlying2 rfl
  · exact V.okc (k := .i64) (m := a0) (n := (IntKind.wrap .i64 (IntKind.wrap .i16 a0))) rfl rfl (V.c_eqlT (by first | omega | (simp only [V.wr_i8, V.wr_i16, V.wr_i32, V.wr_i64, V.wr_u8, V.wr_u16, V.wr_u32, V.wr_u64]; omega)))
  · exact V.okv (k := .i64) (j := .i32) (n := a0) Try.underlying2 rfl Try.underlying21 rfl
  · exact V.okv (k := .i32) (j := .i64) (n := (IntKind.wrap .i32 a0)) Try.underlying21 rfl Try.underlying2 rfl
  · exact V.okc (k := .i64) (m := a0) (n := (IntKind.wrap .i64 (IntKind.wrap .i32 a0))) rfl rfl (V.c_eqlT (by first | omega | (simp only [V.wr_i8, V.wr_i16, V.wr_i32, V.wr_i64, V.wr_u8, V.wr_u16, V.wr_u32, V.wr_u64]; omega)))
  · exact V.okc (k := .i64) (m := a0) (n := 3) rfl rfl (V.c_eqlF (by first | omega | (simp only [V.wr_i8, V.wr_i16, V.wr_i32, V.wr_i64, V.wr_u8, V.wr_u16, V.wr_u32, V.wr_u64]; omega)))
  · exact V.okc (k := .i64) (m := a0) (n := 9) rfl rfl (V.c_eqlF (by first | omega | (simp only [V.wr_i8, V.wr_i16, V.wr_i32, V.wr_i64, V.wr_u8, V.wr_u16, V.wr_u32, V.wr_u64]; omega)))
  · exact V.okc (k := .i64) (m := 3) (n := a0) rfl rfl (V.c_eqlF (by first | omega | (simp only [V.wr_i8, V.wr_i16, V.wr_i32, V.wr_i64, V.wr_u8, V.wr_u16, V.wr_u32, V.wr_u64]; omega)))
  · exact V.okc (k := .i64) (m := 9) (n := a0) rfl rfl (V.c_eqlF (by first | omega | (simp only [V.wr_i8, V.wr_i16, V.wr_i32, V.wr_i64, V.wr_u8, V.wr_u16, V.wr_u32, V.wr_u64]; omega)))
def ac4 : V.An := { an4 with orc := V.orcOf fa4 }
set_option maxRecDepth 1000000 in
theorem run4 : V.yes (V.pcall Try.prog ac4 400 3 [.dat (.sym 0)] [] 0) = true := by kernel_rfl
theorem case4 (a0 : Int) (W : World) (h : a0 ≠ 0 ∧ a0 ≠ 1 ∧ a0 ≠ 3 ∧ a0 ≠ 9 ∧ -128 ≤ a0 ∧ a0 ≤ 127) (w0 : (Lit.int .i64 a0).wf = true) : Calls Try.prog 3 #[.int .i64 a0] W (fun e W' => e = .returned (.bool true) ∧ Below W.heap.size W W') := by
  letI : V.Sig := V.sigOf (sg4 a0)
  exact V.law_calls (an := ac4) ⟨named, V.spec_of_tbl (V.TblOk.any tno to4), V.orc_of (fo4 a0 h w0) rfl⟩ regs follows run4 (V.args_cons (.sym 0 _ rfl (.int _ _)) V.args_nil)
def sg5 (a0 : Int) : Nat → V.D
  | 0 => .int .i64 a0
  | 1 => .int .i8 (IntKind.wrap .i8 a0)
  | 2 => .int .i64 (IntKind.wrap .i64 (IntKind.wrap .i8 a0))
  | 3 => .int .i16 (IntKind.wrap .i16 a0)
  | 4 => .int .i64 (IntKind.wrap .i64 (IntKind.wrap .i16 a0))
  | 5 => .int .i32 (IntKind.wrap .i32 a0)
  | 6 => .int .i64 (IntKind.wrap .i64 (IntKind.wrap .i32 a0))
  | _ => .nil
def fa5 : List V.Fact := [.cmp .eql (.sym 0) (.int .i64 0) false, .cmp .eql (.sym 0) (.int .i64 1) false, .conv 2 35 (.sym 0) (.sym 1), .conv 35 2 (.sym 1) (.sym 2), .cmp .eql (.sym 0) (.sym 2) false, .conv 2 36 (.sym 0) (.sym 3), .conv 36 2 (.sym 3) (.sym 4), .cmp .eql (.sym 0) (.sym 4) true, .conv 2 21 (.sym 0) (.sym 5), .conv 21 2 (.sym 5) (.sym 6), .cmp .eql (.sym 0) (.sym 6) true, .cmp .eql (.sym 0) (.int .i64 3) false, .cmp .eql (.sym 0) (.int .i64 9) false, .cmp .eql (.int .i64 3) (.sym 0) false, .cmp .eql (.int .i64 9) (.sym 0) false]
theorem fo5 (a0 : Int) (h : (a0 < -128 ∨ 127 < a0) ∧ -32768 ≤ a0 ∧ a0 ≤ 32767) (w0 : (Lit.int .i64 a0).wf = true) : ∀ f ∈ fa5, @V.Fact.ok (V.sigOf (sg5 a0)) Try.prog f := by
  have b0 := V.wf_int w0
  letI : V.Sig := V.sigOf (sg5 a0)
  simp only [IntKind.min, IntKind.max, IntKind.signed, IntKind.bits] at *
  intro f hf
  simp only [fa5, List.mem_cons, List.not_mem_nil, or_false] at hf
  rcases hf with rfl | rfl | rfl | rfl | rfl | rfl | rfl | rfl | rfl | rfl | rfl | rfl | rfl | rfl | rfl
  · exact V.okc (k := .i64) (m := a0) (n := 0) rfl rfl (V.c_eqlF (by first | omega | (simp only [V.wr_i8, V.wr_i16, V.wr_i32, V.wr_i64, V.wr_u8, V.wr_u16, V.wr_u32, V.wr_u64]; omega)))
  · exact V.okc (k := .i64) (m := a0) (n := 1) rfl rfl (V.c_eqlF (by first | omega | (simp only [V.wr_i8, V.wr_i16, V.wr_i32, V.wr_i64, V.wr_u8, V.wr_u16, V.wr_u32, V.wr_u64]; omega)))
  · exact V.okv (k := .i64) (j := .i8) (n := a0) Try.underlying2 rfl Try.underlying35 rfl
  · exact V.okv (k := .i8) (j := .i64) (n := (IntKind.wrap .i8 a0)) Try.underlying35 rfl Try.underlying2 rfl
  · exact V.okc (k := .i64) (m := a0) (n := (IntKind.wrap .i64 (IntKind.wrap .i8 a0))) rfl rfl (V.c_eqlF (by first | omega | (simp only [V.wr_i8, V.wr_i16, V.wr_i32, V.wr_i64, V.wr_u8, V.wr_u16, V.wr_u32, V.wr_u64]; omega)))
  · exact V.okv (k := .i64) (j := .i16) (n := a0) Try.underlying2 rfl Try.underlying36 rfl
  · exact V.okv (k := .i16) (j := .i64) (n := (IntKind.wrap .i16 a0)) Try.underlying36 rfl Try.underlying2 rfl
  · exact V.okc (k := .i64) (m := a0) (n := (IntKind.wrap .i64 (IntKind.wrap .i16 a0))) rfl rfl (V.c_eqlT (by first | omega | (simp only [V.wr_i8, V.wr_i16, V.wr_i32, V.wr_i64, V.wr_u8, V.wr_u16, V.wr_u32, V.wr_u64]; omega)))
  · exact V.okv (k := .i64) (j := .i32) (n := a0) Try.underlying2 rfl Try.underlying21 rfl
  · exact V.okv (k := .i32) (j := .i64) (n := (IntKind.wrap .i32 a0)) Try.underlying21 rfl Try.underlying2 rfl
  · exact V.okc (k := .i64) (m := a0) (n := (IntKind.wrap .i64 (IntKind.wrap .i32 a0))) rfl rfl (V.c_eqlT (by first | omega | (simp only [V.wr_i8, V.wr_i16, V.wr_i32, V.wr_i64, V.wr_u8, V.wr_u16, V.wr_u32, V.wr_u64]; omega)))
  · exact V.okc (k := .i64) (m := a0) (n := 3) rfl rfl (V.c_eqlF (by first | omega | (simp only [V.wr_i8, V.wr_i16, V.wr_i32, V.wr_i64, V.wr_u8, V.wr_u16, V.wr_u32, V.wr_u64]; omega)))
  · exact V.okc (k := .i64) (m := a0) (n := 9) rfl rfl (V.c_eqlF (by first | omega | (simp only [V.wr_i8, V.wr_i16, V.wr_i32, V.wr_i64, V.wr_u8, V.wr_u16, V.wr_u32, V.wr_u64]; omega)))
  · exact V.okc (k := .i64) (m := 3) (n := a0) rfl rfl (V.c_eqlF (by first | omega | (simp only [V.wr_i8, V.wr_i16, V.wr_i32, V.wr_i64, V.wr_u8, V.wr_u16, V.wr_u32, V.wr_u64]; omega)))
  · exact V.okc (k := .i64) (m := 9) (n := a0) rfl rfl (V.c_eqlF (by first | omega | (simp only [V.wr_i8, V.wr_i16, V.wr_i32, V.wr_i64, V.wr_u8, V.wr_u16, V.wr_u32, V.wr_u64]; omega)))
def ac5 : V.An := { an4 with orc := V.orcOf fa5 }
set_option maxRecDepth 1000000 in
theorem run5 : V.yes (V.pcall Try.prog ac5 400 3 [.dat (.sym 0)] [] 0) = true := by kernel_rfl
theorem case5 (a0 : Int) (W : World) (h : (a0 < -128 ∨ 127 < a0) ∧ -32768 ≤ a0 ∧ a0 ≤ 32767) (w0 : (Lit.int .i64 a0).wf = true) : Calls Try.prog 3 #[.int .i64 a0] W (fun e W' => e = .returned (.bool true) ∧ Below W.heap.size W W') := by
  letI : V.Sig := V.sigOf (sg5 a0)
  exact V.law_calls (an := ac5) ⟨named, V.spec_of_tbl (V.TblOk.any tno to4), V.orc_of (fo5 a0 h w0) rfl⟩ regs follows run5 (V.args_cons (.sym 0 _ rfl (.int _ _)) V.args_nil)
def sg6 (a0 : Int) : Nat → V.D
  | 0 => .int .i64 a0
  | 1 => .int .i8 (IntKind.wrap .i8 a0)
  | 2 => .int .i64 (IntKind.wrap .i64 (IntKind.wrap .i8 a0))
  | 3 => .int .i16 (IntKind.wrap .i16 a0)
  | 4 => .int .i64 (IntKind.wrap .i64 (IntKind.wrap .i16 a0))
  | 5 => .int .i32 (IntKind.wrap .i32 a0)
  | 6 => .int .i64 (IntKind.wrap .i64 (IntKind.wrap .i32 a0))
  | _ => .nil
def fa6 : List V.Fact := [.cmp .eql (.sym 0) (.int .i64 0) false, .cmp .eql (.sym 0) (.int .i64 1) false, .conv 2 35 (.sym 0) (.sym 1), .conv 35 2 (.sym 1) (.sym 2), .cmp .eql (.sym 0) (.sym 2) false, .conv 2 36 (.sym 0) (.sym 3), .conv 36 2 (.sym 3) (.sym 4), .cmp .eql (.sym 0) (.sym 4) false, .conv 2 21 (.sym 0) (.sym 5), .conv 21 2 (.sym 5) (.sym 6), .cmp .eql (.sym 0) (.sym 6) true, .cmp .eql (.sym 0) (.int .i64 3) false, .cmp .eql (.sym 0) (.int .i64 9) false, .cmp .eql (.int .i64 3) (.sym 0) false, .cmp .eql (.int .i64 9) (.sym 0) false]
theorem fo6 (a0 : Int) (h : (a0 < -32768 ∨ 32767 < a0) ∧ -2147483648 ≤ a0 ∧ a0 ≤ 2147483647) (w0 : (Lit.int .i64 a0).wf = true) : ∀ f ∈ fa6, @V.Fact.ok (V.sigOf (sg6 a0)) Try.prog f := by
  have b0 := V.wf_int w0
  letI : V.Sig := V.sigOf (sg6 a0)
  simp only [IntKind.min, IntKind.max, IntKind.signed, IntKind.bits] at *
  intro f hf
  simp only [fa6, List.mem_cons, List.not_mem_nil, or_false] at hf
  rcases hf with rfl | rfl | rfl | rfl | rfl | rfl | rfl | rfl | rfl | rfl | rfl | rfl | rfl | rfl | rfl
  · exact V.okc (k := .i64) (m := a0) (n := 0) rfl rfl (V.c_eqlF (by first | omega | (simp only [V.wr_i8, V.wr_i16, V.wr_i32, V.wr_i64, V.wr_u8, V.wr_u16, V.wr_u32, V.wr_u64]; omega)))
  · exact V.okc (k := .i64) (m := a0) (n := 1) rfl rfl (V.c_eqlF (by first | omega | (simp only [V.wr_i8, V.wr_i16, V.wr_i32, V.wr_i64, V.wr_u8, V.wr_u16, V.wr_u32, V.wr_u64]; omega)))
  · exact V.okv (k := .i64) (j := .i8) (n := a0) Try.underlying2 rfl Try.underlying35 rfl
  · exact V.okv (k := .i8) (j := .i64) (n := (IntKind.wrap .i8 a0)) Try.underlying35 rfl Try.underlying2 rfl
  · exact V.okc (k := .i64) (m := a0) (n := (IntKind.wrap .i64 (IntKind.wrap .i8 a0))) rfl rfl (V.c_eqlF (by first | omega | (simp only [V.wr_i8, V.wr_i16, V.wr_i32, V.wr_i64, V.wr_u8, V.wr_u16, V.wr_u32, V.wr_u64]; omega)))
  · exact V.okv (k := .i64) (j := .i16) (n := a0) Try.underlying2 rfl Try.underlying36 rfl
  · exact V.okv (k := .i16) (j := .i64) (n := (IntKind.wrap .i16 a0)) Try.underlying36 rfl Try.underlying2 rfl
  · exact V.okc (k := .i64) (m := a0) (n := (IntKind.wrap .i64 (IntKind.wrap .i16 a0))) rfl rfl (V.c_eqlF (by first | omega | (simp only [V.wr_i8, V.wr_i16, V.wr_i32, V.wr_i64, V.wr_u8, V.wr_u16, V.wr_u32, V.wr_u64]; omega)))
  · exact V.okv (k := .i64) (j := .i32) (n := a0) Try.underlying2 rfl Try.underlying21 rfl
  · exact V.okv (k := .i32) (j := .i64) (n := (IntKind.wrap .i32 a0)) Try.underlying21 rfl Try.underlying2 rfl
  · exact V.okc (k := .i64) (m := a0) (n := (IntKind.wrap .i64 (IntKind.wrap .i32 a0))) rfl rfl (V.c_eqlT (by first | omega | (simp only [V.wr_i8, V.wr_i16, V.wr_i32, V.wr_i64, V.wr_u8, V.wr_u16, V.wr_u32, V.wr_u64]; omega)))
  · exact V.okc (k := .i64) (m := a0) (n := 3) rfl rfl (V.c_eqlF (by first | omega | (simp only [V.wr_i8, V.wr_i16, V.wr_i32, V.wr_i64, V.wr_u8, V.wr_u16, V.wr_u32, V.wr_u64]; omega)))
  · exact V.okc (k := .i64) (m := a0) (n := 9) rfl rfl (V.c_eqlF (by first | omega | (simp only [V.wr_i8, V.wr_i16, V.wr_i32, V.wr_i64, V.wr_u8, V.wr_u16, V.wr_u32, V.wr_u64]; omega)))
  · exact V.okc (k := .i64) (m := 3) (n := a0) rfl rfl (V.c_eqlF (by first | omega | (simp only [V.wr_i8, V.wr_i16, V.wr_i32, V.wr_i64, V.wr_u8, V.wr_u16, V.wr_u32, V.wr_u64]; omega)))
  · exact V.okc (k := .i64) (m := 9) (n := a0) rfl rfl (V.c_eqlF (by first | omega | (simp only [V.wr_i8, V.wr_i16, V.wr_i32, V.wr_i64, V.wr_u8, V.wr_u16, V.wr_u32, V.wr_u64]; omega)))
def ac6 : V.An := { an4 with orc := V.orcOf fa6 }
set_option maxRecDepth 1000000 in
theorem run6 : V.yes (V.pcall Try.prog ac6 400 3 [.dat (.sym 0)] [] 0) = true := by kernel_rfl
theorem case6 (a0 : Int) (W : World) (h : (a0 < -32768 ∨ 32767 < a0) ∧ -2147483648 ≤ a0 ∧ a0 ≤ 2147483647) (w0 : (Lit.int .i64 a0).wf = true) : Calls Try.prog 3 #[.int .i64 a0] W (fun e W' => e = .returned (.bool true) ∧ Below W.heap.size W W') := by
  letI : V.Sig := V.sigOf (sg6 a0)
  exact V.law_calls (an := ac6) ⟨named, V.spec_of_tbl (V.TblOk.any tno to4), V.orc_of (fo6 a0 h w0) rfl⟩ regs follows run6 (V.args_cons (.sym 0 _ rfl (.int _ _)) V.args_nil)
def sg7 (a0 : Int) : Nat → V.D
  | 0 => .int .i64 a0
  | 1 => .int .i8 (IntKind.wrap .i8 a0)
  | 2 => .int .i64 (IntKind.wrap .i64 (IntKind.wrap .i8 a0))
  | 3 => .int .i16 (IntKind.wrap .i16 a0)
  | 4 => .int .i64 (IntKind.wrap .i64 (IntKind.wrap .i16 a0))
  | 5 => .int .i32 (IntKind.wrap .i32 a0)
  | 6 => .int .i64 (IntKind.wrap .i64 (IntKind.wrap .i32 a0))
  | _ => .nil
def fa7 : List V.Fact := [.cmp .eql (.sym 0) (.int .i64 0) false, .cmp .eql (.sym 0) (.int .i64 1) false, .conv 2 35 (.sym 0) (.sym 1), .conv 35 2 (.sym 1) (.sym 2), .cmp .eql (.sym 0) (.sym 2) false, .conv 2 36 (.sym 0) (.sym 3), .conv 36 2 (.sym 3) (.sym 4), .cmp .eql (.sym 0) (.sym 4) false, .conv 2 21 (.sym 0) (.sym 5), .conv 21 2 (.sym 5) (.sym 6), .cmp .eql (.sym 0) (.sym 6) false, .cmp .eql (.sym 0) (.int .i64 3) false, .cmp .eql (.sym 0) (.int .i64 9) false, .cmp .eql (.int .i64 3) (.sym 0) false, .cmp .eql (.int .i64 9) (.sym 0) false]
theorem fo7 (a0 : Int) (h : (a0 < -2147483648 ∨ 2147483647 < a0)) (w0 : (Lit.int .i64 a0).wf = true) : ∀ f ∈ fa7, @V.Fact.ok (V.sigOf (sg7 a0)) Try.prog f := by
  have b0 := V.wf_int w0
  letI : V.Sig := V.sigOf (sg7 a0)
  simp only [IntKind.min, IntKind.max, IntKind.signed, IntKind.bits] at *
  intro f hf
  simp only [fa7, List.mem_cons, List.not_mem_nil, or_false] at hf
  rcases hf with rfl | rfl | rfl | rfl | rfl | rfl | rfl | rfl | rfl | rfl | rfl | rfl | rfl | rfl | rfl
  · exact V.okc (k := .i64) (m := a0) (n := 0) rfl rfl (V.c_eqlF (by first | omega | (simp only [V.wr_i8, V.wr_i16, V.wr_i32, V.wr_i64, V.wr_u8, V.wr_u16, V.wr_u32, V.wr_u64]; omega)))
  · exact V.okc (k := .i64) (m := a0) (n := 1) rfl rfl (V.c_eqlF (by first | omega | (simp only [V.wr_i8, V.wr_i16, V.wr_i32, V.wr_i64, V.wr_u8, V.wr_u16, V.wr_u32, V.wr_u64]; omega)))
  · exact V.okv (k := .i64) (j := .i8) (n := a0) Try.underlying2 rfl Try.underlying35 rfl
  · exact V.okv (k := .i8) (j := .i64) (n := (IntKind.wrap .i8 a0)) Try.underlying35 rfl Try.underlying2 rfl
  · exact V.okc (k := .i64) (m := a0) (n := (IntKind.wrap .i64 (IntKind.wrap .i8 a0))) rfl rfl (V.c_eqlF (by first | omega | (simp only [V.wr_i8, V.wr_i16, V.wr_i32, V.wr_i64, V.wr_u8, V.wr_u16, V.wr_u32, V.wr_u64]; omega)))
  · exact V.okv (k := .i64) (j := .i16) (n := a0) Try.underlying2 rfl Try.underlying36 rfl
  · exact V.okv (k := .i16) (j := .i64) (n := (IntKind.wrap .i16 a0)) Try.underlying36 rfl Try.underlying2 rfl
  · exact V.okc (k := .i64) (m := a0) (n := (IntKind.wrap .i64 (IntKind.wrap .i16 a0))) rfl rfl (V.c_eqlF (by first | omega | (simp only [V.wr_i8, V.wr_i16, V.wr_i32, V.wr_i64, V.wr_u8, V.wr_u16, V.wr_u32, V.wr_u64]; omega)))
  · exact V.okv (k := .i64) (j := .i32) (n := a0) Try.underlying2 rfl Try.underlying21 rfl
  · exact V.okv (k := .i32) (j := .i64) (n := (IntKind.wrap .i32 a0)) Try.underlying21 rfl Try.underlying2 rfl
  · exact V.okc (k := .i64) (m := a0) (n := (IntKind.wrap .i64 (IntKind.wrap .i32 a0))) rfl rfl (V.c_eqlF (by first | omega | (simp only [V.wr_i8, V.wr_i16, V.wr_i32, V.wr_i64, V.wr_u8, V.wr_u16, V.wr_u32, V.wr_u64]; omega)))
  · exact V.okc (k := .i64) (m := a0) (n := 3) rfl rfl (V.c_eqlF (by first | omega | (simp only [V.wr_i8, V.wr_i16, V.wr_i32, V.wr_i64, V.wr_u8, V.wr_u16, V.wr_u32, V.wr_u64]; omega)))
  · exact V.okc (k := .i64) (m := a0) (n := 9) rfl rfl (V.c_eqlF (by first | omega | (simp only [V.wr_i8, V.wr_i16, V.wr_i32, V.wr_i64, V.wr_u8, V.wr_u16, V.wr_u32, V.wr_u64]; omega)))
  · exact V.okc (k := .i64) (m := 3) (n := a0) rfl rfl (V.c_eqlF (by first | omega | (simp only [V.wr_i8, V.wr_i16, V.wr_i32, V.wr_i64, V.wr_u8, V.wr_u16, V.wr_u32, V.wr_u64]; omega)))
  · exact V.okc (k := .i64) (m := 9) (n := a0) rfl rfl (V.c_eqlF (by first | omega | (simp only [V.wr_i8, V.wr_i16, V.wr_i32, V.wr_i64, V.wr_u8, V.wr_u16, V.wr_u32, V.wr_u64]; omega)))
def ac7 : V.An := { an4 with orc := V.orcOf fa7 }
set_option maxRecDepth 1000000 in
theorem run7 : V.yes (V.pcall Try.prog ac7 400 3 [.dat (.sym 0)] [] 0) = true := by kernel_rfl
theorem case7 (a0 : Int) (W : World) (h : (a0 < -2147483648 ∨ 2147483647 < a0)) (w0 : (Lit.int .i64 a0).wf = true) : Calls Try.prog 3 #[.int .i64 a0] W (fun e W' => e = .returned (.bool true) ∧ Below W.heap.size W W') := by
  letI : V.Sig := V.sigOf (sg7 a0)
  exact V.law_calls (an := ac7) ⟨named, V.spec_of_tbl (V.TblOk.any tno to4), V.orc_of (fo7 a0 h w0) rfl⟩ regs follows run7 (V.args_cons (.sym 0 _ rfl (.int _ _)) V.args_nil)
theorem ValueRanges (W : World) (a0 : Int) (w0 : (Lit.int .i64 a0).wf = true) : Calls Try.prog 3 #[.int .i64 a0] W (fun e W' => e = .returned (.bool true) ∧ Below W.heap.size W W') := by
  have b0 := V.wf_int w0
  simp only [IntKind.min, IntKind.max, IntKind.signed, IntKind.bits] at *
  by_cases h0 : a0 = 0
  · exact case0 a0 W h0 w0
  by_cases h1 : a0 = 1
  · exact case1 a0 W h1 w0
  by_cases h2 : a0 = 3
  · exact case2 a0 W h2 w0
  by_cases h3 : a0 = 9
  · exact case3 a0 W h3 w0
  by_cases h4 : a0 ≠ 0 ∧ a0 ≠ 1 ∧ a0 ≠ 3 ∧ a0 ≠ 9 ∧ -128 ≤ a0 ∧ a0 ≤ 127
  · exact case4 a0 W h4 w0
  by_cases h5 : (a0 < -128 ∨ 127 < a0) ∧ -32768 ≤ a0 ∧ a0 ≤ 32767
  · exact case5 a0 W h5 w0
  by_cases h6 : (a0 < -32768 ∨ 32767 < a0) ∧ -2147483648 ≤ a0 ∧ a0 ≤ 2147483647
  · exact case6 a0 W h6 w0
  exact case7 a0 W (by first | omega | (repeat' (first | assumption | trivial | apply And.intro)) | simp_all) w0
end Go.Proofs.Ytdgihefkagoicaa.Say
