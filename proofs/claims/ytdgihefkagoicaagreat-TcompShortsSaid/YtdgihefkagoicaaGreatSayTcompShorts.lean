/- TcompShorts: what V tells of the law, its cases one by one. -/
import Derived.Test.YtdgihefkagoicaaGreatChecked
import Derived.Test.YtdgihefkagoicaaGreatV21
set_option linter.unusedVariables false
set_option linter.unusedSimpArgs false
namespace Go.Proofs.YtdgihefkagoicaaGreat.Say
open Go Go.RowKit
open V (D)
instance : V.Sig := V.sig0
theorem named : V.Named Tryz.prog := by
  have h : Tryz.prog.funcs.all (fun fn => fn.body.isNone || !(fn.name == "runtime.NumGoroutine")) = true := by kernel_rfl
  intro f fn c hf hc
  have := Array.all_eq_true_iff_forall_mem.1 h fn (Array.mem_of_getElem? hf)
  simpa [hc] using this
theorem regs : V.RegsP Tryz.prog := V.regs_of_check Tryz.checked.codeOk
theorem follows : Tryz.prog.follows .mixedOrders = true := by kernel_rfl
def d0 : V.D := .fp [V.txt [105, 49, 54], .int .i64 3, .int .i64 0, .nil, .int .i64 0]
def a0 : List V.D := [(V.txt [105, 49, 54])]
def r0 : List V.D := [d0, (.int .i64 6), .nil]
def a1 : List V.D := [(.agg [.nil, .nil, .nil]), (V.txt [105, 49, 54]), (.agg [.int .i64 6, .int .i64 (-2), V.txt [], .nil, .nil]), (.agg [.int .i64 5, .int .i64 50])]
def r1 : List V.D := [(.lst [.int .u8 3]), (.int .i64 0)]
def a2 : List V.D := [(.agg [.nil, .nil, .nil]), (V.txt [105, 49, 54]), (.lst [.int .u8 10, .int .u8 9]), (.agg [.int .i64 5, .int .i64 50])]
def r2 : List V.D := [(.agg [.int .i64 6, .int .i64 5, V.txt [], .nil, .nil]), (.int .i64 1), (.int .i64 0)]
def a3 : List V.D := [(.agg [.nil, .nil, .nil]), (.agg [.int .i64 4, V.txt [], .nil]), (.lst [.int .u8 0]), (.agg [.int .i64 5, .int .i64 50])]
def r3 : List V.D := [(.agg [.int .i64 12, .int .i64 0, V.txt [], .nil, .nil]), (.int .i64 1), (.int .i64 0)]
def a4 : List V.D := [(.lst [.int .u8 129, .int .u8 2]), (.int .i64 5), (.agg [.int .i64 5, .int .i64 50])]
def r4 : List V.D := [(.int .i64 2), (.int .i64 0)]
def a5 : List V.D := []
def r5 : List V.D := [(.bool true)]
def t0 : V.Tbl := []
theorem to0 : V.TblOk Tryz.prog t0 := V.TblOk.nil
def an0 : V.An := { io := fun f => [34,79,110,111,140,166,178,179,186,187,189,191,192,193,194,195,196,197,198,199,200,201,202,203,204].contains f, ownRes := fun f => [33,83,104,117,118,138,177].contains f, spec := V.inTbl t0 }
theorem good0 : V.Good Tryz.prog an0 := ⟨named, V.spec_of_tbl to0, fun _ _ _ _ h => nomatch h⟩
set_option maxRecDepth 1000000 in
theorem e0 : V.tells Tryz.prog an0 400 95 a0 r0 = true := by kernel_rfl
theorem h0 : V.Holds Tryz.prog 95 a0 r0 := V.holds_of_tells good0 regs follows e0
set_option maxRecDepth 1000000 in
theorem e3 : V.tells Tryz.prog an0 400 20 a3 r3 = true := by kernel_rfl
theorem h3 : V.Holds Tryz.prog 20 a3 r3 := V.holds_of_tells good0 regs follows e3
set_option maxRecDepth 1000000 in
theorem e4 : V.tells Tryz.prog an0 400 21 a4 r4 = true := by kernel_rfl
theorem h4 : V.Holds Tryz.prog 21 a4 r4 := V.holds_of_tells good0 regs follows e4
def t1 : V.Tbl := [(95, [(a0, r0)]), (20, [(a3, r3)]), (21, [(a4, r4)])]
theorem to1 : V.TblOk Tryz.prog t1 := (V.TblOk.cons (V.RowOk.cons h0 V.RowOk.nil) (V.TblOk.cons (V.RowOk.cons h3 V.RowOk.nil) (V.TblOk.cons (V.RowOk.cons h4 V.RowOk.nil) V.TblOk.nil)))
def an1 : V.An := { io := fun f => [34,79,110,111,140,166,178,179,186,187,189,191,192,193,194,195,196,197,198,199,200,201,202,203,204].contains f, ownRes := fun f => [33,83,104,117,118,138,177].contains f, spec := V.inTbl t1 }
theorem good1 : V.Good Tryz.prog an1 := ⟨named, V.spec_of_tbl to1, fun _ _ _ _ h => nomatch h⟩
set_option maxRecDepth 1000000 in
theorem e1 : V.tells Tryz.prog an1 400 7 a1 r1 = true := by kernel_rfl
theorem h1 : V.Holds Tryz.prog 7 a1 r1 := V.holds_of_tells good1 regs follows e1
set_option maxRecDepth 1000000 in
theorem e2 : V.tells Tryz.prog an1 400 8 a2 r2 = true := by kernel_rfl
theorem h2 : V.Holds Tryz.prog 8 a2 r2 := V.holds_of_tells good1 regs follows e2
def t2 : V.Tbl := [(95, [(a0, r0)]), (7, [(a1, r1)]), (8, [(a2, r2)]), (20, [(a3, r3)]), (21, [(a4, r4)])]
theorem to2 : V.TblOk Tryz.prog t2 := (V.TblOk.cons (V.RowOk.cons h0 V.RowOk.nil) (V.TblOk.cons (V.RowOk.cons h1 V.RowOk.nil) (V.TblOk.cons (V.RowOk.cons h2 V.RowOk.nil) (V.TblOk.cons (V.RowOk.cons h3 V.RowOk.nil) (V.TblOk.cons (V.RowOk.cons h4 V.RowOk.nil) V.TblOk.nil)))))
def an2 : V.An := { io := fun f => [34,79,110,111,140,166,178,179,186,187,189,191,192,193,194,195,196,197,198,199,200,201,202,203,204].contains f, ownRes := fun f => [33,83,104,117,118,138,177].contains f, spec := V.inTbl t2 }
theorem good2 : V.Good Tryz.prog an2 := ⟨named, V.spec_of_tbl to2, fun _ _ _ _ h => nomatch h⟩
set_option maxRecDepth 1000000 in
theorem e5 : V.tells Tryz.prog an2 400 6 a5 r5 = true := by kernel_rfl
theorem h5 : V.Holds Tryz.prog 6 a5 r5 := V.holds_of_tells good2 regs follows e5
def t3 : V.Tbl := [(95, [(a0, r0)]), (7, [(a1, r1)]), (8, [(a2, r2)]), (20, [(a3, r3)]), (21, [(a4, r4)]), (6, [(a5, r5)])]
theorem to3 : V.TblOk Tryz.prog t3 := (V.TblOk.cons (V.RowOk.cons h0 V.RowOk.nil) (V.TblOk.cons (V.RowOk.cons h1 V.RowOk.nil) (V.TblOk.cons (V.RowOk.cons h2 V.RowOk.nil) (V.TblOk.cons (V.RowOk.cons h3 V.RowOk.nil) (V.TblOk.cons (V.RowOk.cons h4 V.RowOk.nil) (V.TblOk.cons (V.RowOk.cons h5 V.RowOk.nil) V.TblOk.nil))))))
def an3 : V.An := { io := fun f => [34,79,110,111,140,166,178,179,186,187,189,191,192,193,194,195,196,197,198,199,200,201,202,203,204].contains f, ownRes := fun f => [33,83,104,117,118,138,177].contains f, spec := V.inTbl t3 }
theorem good3 : V.Good Tryz.prog an3 := ⟨named, V.spec_of_tbl to3, fun _ _ _ _ h => nomatch h⟩
theorem tno : V.tblNo t3 = true := by kernel_rfl
def sg0 (a0 : Int) : Nat → V.D
  | 0 => .int .i64 a0
  | _ => .nil
def fa0 : List V.Fact := [.cmp .eql (.sym 0) (.int .i64 2) false, .cmp .eql (.sym 0) (.int .i64 3) false, .cmp .eql (.sym 0) (.int .i64 6) false, .cmp .eql (.sym 0) (.int .i64 8) false, .cmp .eql (.sym 0) (.int .i64 17) false, .cmp .eql (.sym 0) (.int .i64 10) false, .cmp .eql (.sym 0) (.int .i64 4) false, .cmp .eql (.sym 0) (.int .i64 11) false, .cmp .eql (.sym 0) (.int .i64 16) false, .cmp .eql (.sym 0) (.int .i64 15) false, .cmp .eql (.sym 0) (.int .i64 14) false, .cmp .eql (.sym 0) (.int .i64 13) false, .cmp .eql (.sym 0) (.int .i64 12) false]
theorem fo0 (a0 : Int) (h : a0 ≠ 2 ∧ a0 ≠ 3 ∧ a0 ≠ 6 ∧ a0 ≠ 8 ∧ a0 ≠ 17 ∧ a0 ≠ 10 ∧ a0 ≠ 4 ∧ a0 ≠ 11 ∧ a0 ≠ 16 ∧ a0 ≠ 15 ∧ a0 ≠ 14 ∧ a0 ≠ 13 ∧ a0 ≠ 12 ∧ True) (w0 : (Lit.int .i64 a0).wf = true) : ∀ f ∈ fa0, @V.Fact.ok (V.sigOf (sg0 a0)) Tryz.prog f := by
  have b0 := V.wf_int w0
  letI : V.Sig := V.sigOf (sg0 a0)
  simp only [IntKind.min, IntKind.max, IntKind.signed, IntKind.bits] at *
  intro f hf
  simp only [fa0, List.mem_cons, List.not_mem_nil, or_false] at hf
  rcases hf with rfl | rfl | rfl | rfl | rfl | rfl | rfl | rfl | rfl | rfl | rfl | rfl | rfl
  · exact V.okc (k := .i64) (m := a0) (n := 2) rfl rfl (V.c_eqlF (by first | omega | (simp only [V.wr_i8, V.wr_i16, V.wr_i32, V.wr_i64, V.wr_u8, V.wr_u16, V.wr_u32, V.wr_u64]; omega)))
  · exact V.okc (k := .i64) (m := a0) (n := 3) rfl rfl (V.c_eqlF (by first | omega | (simp only [V.wr_i8, V.wr_i16, V.wr_i32, V.wr_i64, V.wr_u8, V.wr_u16, V.wr_u32, V.wr_u64]; omega)))
  · exact V.okc (k := .i64) (m := a0) (n := 6) rfl rfl (V.c_eqlF (by first | omega | (simp only [V.wr_i8, V.wr_i16, V.wr_i32, V.wr_i64, V.wr_u8, V.wr_u16, V.wr_u32, V.wr_u64]; omega)))
  · exact V.okc (k := .i64) (m := a0) (n := 8) rfl rfl (V.c_eqlF (by first | omega | (simp only [V.wr_i8, V.wr_i16, V.wr_i32, V.wr_i64, V.wr_u8, V.wr_u16, V.wr_u32, V.wr_u64]; omega)))
  · exact V.okc (k := .i64) (m := a0) (n := 17) rfl rfl (V.c_eqlF (by first | omega | (simp only [V.wr_i8, V.wr_i16, V.wr_i32, V.wr_i64, V.wr_u8, V.wr_u16, V.wr_u32, V.wr_u64]; omega)))
  · exact V.okc (k := .i64) (m := a0) (n := 10) rfl rfl (V.c_eqlF (by first | omega | (simp only [V.wr_i8, V.wr_i16, V.wr_i32, V.wr_i64, V.wr_u8, V.wr_u16, V.wr_u32, V.wr_u64]; omega)))
  · exact V.okc (k := .i64) (m := a0) (n := 4) rfl rfl (V.c_eqlF (by first | omega | (simp only [V.wr_i8, V.wr_i16, V.wr_i32, V.wr_i64, V.wr_u8, V.wr_u16, V.wr_u32, V.wr_u64]; omega)))
  · exact V.okc (k := .i64) (m := a0) (n := 11) rfl rfl (V.c_eqlF (by first | omega | (simp only [V.wr_i8, V.wr_i16, V.wr_i32, V.wr_i64, V.wr_u8, V.wr_u16, V.wr_u32, V.wr_u64]; omega)))
  · exact V.okc (k := .i64) (m := a0) (n := 16) rfl rfl (V.c_eqlF (by first | omega | (simp only [V.wr_i8, V.wr_i16, V.wr_i32, V.wr_i64, V.wr_u8, V.wr_u16, V.wr_u32, V.wr_u64]; omega)))
  · exact V.okc (k := .i64) (m := a0) (n := 15) rfl rfl (V.c_eqlF (by first | omega | (simp only [V.wr_i8, V.wr_i16, V.wr_i32, V.wr_i64, V.wr_u8, V.wr_u16, V.wr_u32, V.wr_u64]; omega)))
  · exact V.okc (k := .i64) (m := a0) (n := 14) rfl rfl (V.c_eqlF (by first | omega | (simp only [V.wr_i8, V.wr_i16, V.wr_i32, V.wr_i64, V.wr_u8, V.wr_u16, V.wr_u32, V.wr_u64]; omega)))
  · exact V.okc (k := .i64) (m := a0) (n := 13) rfl rfl (V.c_eqlF (by first | omega | (simp only [V.wr_i8, V.wr_i16, V.wr_i32, V.wr_i64, V.wr_u8, V.wr_u16, V.wr_u32, V.wr_u64]; omega)))
  · exact V.okc (k := .i64) (m := a0) (n := 12) rfl rfl (V.c_eqlF (by first | omega | (simp only [V.wr_i8, V.wr_i16, V.wr_i32, V.wr_i64, V.wr_u8, V.wr_u16, V.wr_u32, V.wr_u64]; omega)))
def ac0 : V.An := { an3 with orc := V.orcOf fa0 }
set_option maxRecDepth 1000000 in
theorem run0 : V.yes (V.pcall Tryz.prog ac0 400 4 [.dat (.sym 0)] [] 0) = true := by kernel_rfl
theorem case0 (a0 : Int) (W : World) (h : a0 ≠ 2 ∧ a0 ≠ 3 ∧ a0 ≠ 6 ∧ a0 ≠ 8 ∧ a0 ≠ 17 ∧ a0 ≠ 10 ∧ a0 ≠ 4 ∧ a0 ≠ 11 ∧ a0 ≠ 16 ∧ a0 ≠ 15 ∧ a0 ≠ 14 ∧ a0 ≠ 13 ∧ a0 ≠ 12 ∧ True) (w0 : (Lit.int .i64 a0).wf = true) : Calls Tryz.prog 4 #[.int .i64 a0] W (fun e W' => e = .returned (.bool true) ∧ Below W.heap.size W W') := by
  letI : V.Sig := V.sigOf (sg0 a0)
  exact V.law_calls (an := ac0) ⟨named, V.spec_of_tbl (V.TblOk.any tno to3), V.orc_of (fo0 a0 h w0) rfl⟩ regs follows run0 (V.args_cons (.sym 0 _ rfl (.int _ _)) V.args_nil)
set_option maxRecDepth 1000000 in
theorem run1 : V.yes (V.pcall Tryz.prog an3 400 4 [.dat (.int .i64 2)] [] 0) = true := by kernel_rfl
theorem case1 (a0 : Int) (W : World) (h : a0 = 2) (w0 : (Lit.int .i64 a0).wf = true) : Calls Tryz.prog 4 #[.int .i64 a0] W (fun e W' => e = .returned (.bool true) ∧ Below W.heap.size W W') := by
  obtain rfl : a0 = 2 := by first | omega | simp_all
  exact V.law_calls good3 regs follows run1 (V.args_cons (.int _ _) V.args_nil)
set_option maxRecDepth 1000000 in
theorem run2 : V.yes (V.pcall Tryz.prog an3 400 4 [.dat (.int .i64 3)] [] 0) = true := by kernel_rfl
theorem case2 (a0 : Int) (W : World) (h : a0 = 3) (w0 : (Lit.int .i64 a0).wf = true) : Calls Tryz.prog 4 #[.int .i64 a0] W (fun e W' => e = .returned (.bool true) ∧ Below W.heap.size W W') := by
  obtain rfl : a0 = 3 := by first | omega | simp_all
  exact V.law_calls good3 regs follows run2 (V.args_cons (.int _ _) V.args_nil)
set_option maxRecDepth 1000000 in
theorem run3 : V.yes (V.pcall Tryz.prog an3 400 4 [.dat (.int .i64 6)] [] 0) = true := by kernel_rfl
theorem case3 (a0 : Int) (W : World) (h : a0 = 6) (w0 : (Lit.int .i64 a0).wf = true) : Calls Tryz.prog 4 #[.int .i64 a0] W (fun e W' => e = .returned (.bool true) ∧ Below W.heap.size W W') := by
  obtain rfl : a0 = 6 := by first | omega | simp_all
  exact V.law_calls good3 regs follows run3 (V.args_cons (.int _ _) V.args_nil)
set_option maxRecDepth 1000000 in
theorem run4 : V.yes (V.pcall Tryz.prog an3 400 4 [.dat (.int .i64 8)] [] 0) = true := by kernel_rfl
theorem case4 (a0 : Int) (W : World) (h : a0 = 8) (w0 : (Lit.int .i64 a0).wf = true) : Calls Tryz.prog 4 #[.int .i64 a0] W (fun e W' => e = .returned (.bool true) ∧ Below W.heap.size W W') := by
  obtain rfl : a0 = 8 := by first | omega | simp_all
  exact V.law_calls good3 regs follows run4 (V.args_cons (.int _ _) V.args_nil)
set_option maxRecDepth 1000000 in
theorem run5 : V.yes (V.pcall Tryz.prog an3 400 4 [.dat (.int .i64 17)] [] 0) = true := by kernel_rfl
theorem case5 (a0 : Int) (W : World) (h : a0 = 17) (w0 : (Lit.int .i64 a0).wf = true) : Calls Tryz.prog 4 #[.int .i64 a0] W (fun e W' => e = .returned (.bool true) ∧ Below W.heap.size W W') := by
  obtain rfl : a0 = 17 := by first | omega | simp_all
  exact V.law_calls good3 regs follows run5 (V.args_cons (.int _ _) V.args_nil)
set_option maxRecDepth 1000000 in
theorem run6 : V.yes (V.pcall Tryz.prog an3 400 4 [.dat (.int .i64 10)] [] 0) = true := by kernel_rfl
theorem case6 (a0 : Int) (W : World) (h : a0 = 10) (w0 : (Lit.int .i64 a0).wf = true) : Calls Tryz.prog 4 #[.int .i64 a0] W (fun e W' => e = .returned (.bool true) ∧ Below W.heap.size W W') := by
  obtain rfl : a0 = 10 := by first | omega | simp_all
  exact V.law_calls good3 regs follows run6 (V.args_cons (.int _ _) V.args_nil)
set_option maxRecDepth 1000000 in
theorem run7 : V.yes (V.pcall Tryz.prog an3 400 4 [.dat (.int .i64 4)] [] 0) = true := by kernel_rfl
theorem case7 (a0 : Int) (W : World) (h : a0 = 4) (w0 : (Lit.int .i64 a0).wf = true) : Calls Tryz.prog 4 #[.int .i64 a0] W (fun e W' => e = .returned (.bool true) ∧ Below W.heap.size W W') := by
  obtain rfl : a0 = 4 := by first | omega | simp_all
  exact V.law_calls good3 regs follows run7 (V.args_cons (.int _ _) V.args_nil)
set_option maxRecDepth 1000000 in
theorem run8 : V.yes (V.pcall Tryz.prog an3 400 4 [.dat (.int .i64 11)] [] 0) = true := by kernel_rfl
theorem case8 (a0 : Int) (W : World) (h : a0 = 11) (w0 : (Lit.int .i64 a0).wf = true) : Calls Tryz.prog 4 #[.int .i64 a0] W (fun e W' => e = .returned (.bool true) ∧ Below W.heap.size W W') := by
  obtain rfl : a0 = 11 := by first | omega | simp_all
  exact V.law_calls good3 regs follows run8 (V.args_cons (.int _ _) V.args_nil)
set_option maxRecDepth 1000000 in
theorem run9 : V.yes (V.pcall Tryz.prog an3 400 4 [.dat (.int .i64 16)] [] 0) = true := by kernel_rfl
theorem case9 (a0 : Int) (W : World) (h : a0 = 16) (w0 : (Lit.int .i64 a0).wf = true) : Calls Tryz.prog 4 #[.int .i64 a0] W (fun e W' => e = .returned (.bool true) ∧ Below W.heap.size W W') := by
  obtain rfl : a0 = 16 := by first | omega | simp_all
  exact V.law_calls good3 regs follows run9 (V.args_cons (.int _ _) V.args_nil)
set_option maxRecDepth 1000000 in
theorem run10 : V.yes (V.pcall Tryz.prog an3 400 4 [.dat (.int .i64 15)] [] 0) = true := by kernel_rfl
theorem case10 (a0 : Int) (W : World) (h : a0 = 15) (w0 : (Lit.int .i64 a0).wf = true) : Calls Tryz.prog 4 #[.int .i64 a0] W (fun e W' => e = .returned (.bool true) ∧ Below W.heap.size W W') := by
  obtain rfl : a0 = 15 := by first | omega | simp_all
  exact V.law_calls good3 regs follows run10 (V.args_cons (.int _ _) V.args_nil)
set_option maxRecDepth 1000000 in
theorem run11 : V.yes (V.pcall Tryz.prog an3 400 4 [.dat (.int .i64 14)] [] 0) = true := by kernel_rfl
theorem case11 (a0 : Int) (W : World) (h : a0 = 14) (w0 : (Lit.int .i64 a0).wf = true) : Calls Tryz.prog 4 #[.int .i64 a0] W (fun e W' => e = .returned (.bool true) ∧ Below W.heap.size W W') := by
  obtain rfl : a0 = 14 := by first | omega | simp_all
  exact V.law_calls good3 regs follows run11 (V.args_cons (.int _ _) V.args_nil)
set_option maxRecDepth 1000000 in
theorem run12 : V.yes (V.pcall Tryz.prog an3 400 4 [.dat (.int .i64 13)] [] 0) = true := by kernel_rfl
theorem case12 (a0 : Int) (W : World) (h : a0 = 13) (w0 : (Lit.int .i64 a0).wf = true) : Calls Tryz.prog 4 #[.int .i64 a0] W (fun e W' => e = .returned (.bool true) ∧ Below W.heap.size W W') := by
  obtain rfl : a0 = 13 := by first | omega | simp_all
  exact V.law_calls good3 regs follows run12 (V.args_cons (.int _ _) V.args_nil)
set_option maxRecDepth 1000000 in
theorem run13 : V.yes (V.pcall Tryz.prog an3 400 4 [.dat (.int .i64 12)] [] 0) = true := by kernel_rfl
theorem case13 (a0 : Int) (W : World) (h : a0 = 12) (w0 : (Lit.int .i64 a0).wf = true) : Calls Tryz.prog 4 #[.int .i64 a0] W (fun e W' => e = .returned (.bool true) ∧ Below W.heap.size W W') := by
  obtain rfl : a0 = 12 := by first | omega | simp_all
  exact V.law_calls good3 regs follows run13 (V.args_cons (.int _ _) V.args_nil)
theorem TcompShorts (W : World) (a0 : Int) (w0 : (Lit.int .i64 a0).wf = true) : Calls Tryz.prog 4 #[.int .i64 a0] W (fun e W' => e = .returned (.bool true) ∧ Below W.heap.size W W') := by
  have b0 := V.wf_int w0
  simp only [IntKind.min, IntKind.max, IntKind.signed, IntKind.bits] at *
  by_cases h1 : a0 = 2
  · exact case1 a0 W h1 w0
  by_cases h2 : a0 = 3
  · exact case2 a0 W h2 w0
  by_cases h3 : a0 = 6
  · exact case3 a0 W h3 w0
  by_cases h4 : a0 = 8
  · exact case4 a0 W h4 w0
  by_cases h5 : a0 = 17
  · exact case5 a0 W h5 w0
  by_cases h6 : a0 = 10
  · exact case6 a0 W h6 w0
  by_cases h7 : a0 = 4
  · exact case7 a0 W h7 w0
  by_cases h8 : a0 = 11
  · exact case8 a0 W h8 w0
  by_cases h9 : a0 = 16
  · exact case9 a0 W h9 w0
  by_cases h10 : a0 = 15
  · exact case10 a0 W h10 w0
  by_cases h11 : a0 = 14
  · exact case11 a0 W h11 w0
  by_cases h12 : a0 = 13
  · exact case12 a0 W h12 w0
  by_cases h13 : a0 = 12
  · exact case13 a0 W h13 w0
  exact case0 a0 W (by first | omega | (repeat' (first | assumption | trivial | apply And.intro)) | simp_all) w0
end Go.Proofs.YtdgihefkagoicaaGreat.Say
