/- Begun: what V tells of the law, its calls one by one. -/
import Derived.Test.YtidmlgacfdajjaaChecked
import Derived.Test.YtidmlgacfdajjaaV18
namespace Go.Proofs.Ytidmlgacfdajjaa.Say
open Go
open V (D)
instance : V.Sig := ⟨fun _ => .nil⟩
theorem named : V.Named Try.prog := by
  have h : Try.prog.funcs.all (fun fn => fn.body.isNone || !(fn.name == "runtime.NumGoroutine")) = true := by kernel_rfl
  intro f fn c hf hc
  have := Array.all_eq_true_iff_forall_mem.1 h fn (Array.mem_of_getElem? hf)
  simpa [hc] using this
theorem regs : V.RegsP Try.prog := V.regs_of_check Try.checked.codeOk
theorem follows : Try.prog.follows .mixedOrders = true := by kernel_rfl
def d0 : V.D := .fp [V.txt [97, 46, 65], .int .i64 3, .int .i64 0, .lst [V.txt [97, 46, 65]], .int .i64 0]
def d1 : V.D := .fp [V.txt [105, 56], .int .i64 2, .int .i64 0, .nil, .int .i64 0]
def d2 : V.D := .agg [.lst [.agg [.int .i64 4, V.txt [97, 46, 65], .lst [.agg [.int .i64 1, .int .i64 1, V.txt [105, 56], V.txt [], .bool false, .int .i64 0, .int .i64 0, V.txt [], .nil, .nil]]]], .nil, .nil]
def d3 : V.D := .agg [.int .i64 4, V.txt [97, 46, 65], .lst [.agg [.int .i64 1, .int .i64 1, V.txt [105, 56], V.txt [], .bool false, .int .i64 0, .int .i64 0, V.txt [], .nil, .nil]]]
def d4 : V.D := .agg [.int .i64 12, .int .i64 0, V.txt [], .lst [.agg [.int .i64 3, .int .i64 5, V.txt [], .nil, .nil]], .lst [.int .i64 1]]
def a0 : List V.D := [(V.txt [97, 46, 65])]
def r0 : List V.D := [d0, (.int .i64 0), .nil]
def a1 : List V.D := [(V.txt [105, 56])]
def r1 : List V.D := [d1, (.int .i64 3), .nil]
def a2 : List V.D := [d2, d3, d4]
def r2 : List V.D := [(.bool true)]
def a3 : List V.D := [d2, (V.txt [97, 46, 65]), d4]
def r3 : List V.D := [(.bool true)]
def t0 : V.Tbl := []
theorem to0 : V.TblOk Try.prog t0 := V.TblOk.nil
def an0 : V.An := { io := fun f => [33,34,61,62,64,78,79,80,81,85,86,87,88,89,96,97,98,100,101].contains f, ownRes := fun f => [31].contains f, spec := V.inTbl t0 }
theorem good0 : V.Good Try.prog an0 := ⟨named, V.spec_of_tbl to0, (fun _ _ _ _ h => nomatch h), V.call_none rfl⟩
set_option maxRecDepth 1000000 in
theorem e0 : V.tells Try.prog an0 150 66 a0 r0 = true := by kernel_rfl
theorem h0 : V.Holds Try.prog 66 a0 r0 := V.holds_of_tells good0 regs follows e0
set_option maxRecDepth 1000000 in
theorem e1 : V.tells Try.prog an0 150 66 a1 r1 = true := by kernel_rfl
theorem h1 : V.Holds Try.prog 66 a1 r1 := V.holds_of_tells good0 regs follows e1
def t1 : V.Tbl := [(66, [(a0, r0), (a1, r1)])]
theorem to1 : V.TblOk Try.prog t1 := (V.TblOk.cons (V.RowOk.cons h0 (V.RowOk.cons h1 V.RowOk.nil)) V.TblOk.nil)
def an1 : V.An := { io := fun f => [33,34,61,62,64,78,79,80,81,85,86,87,88,89,96,97,98,100,101].contains f, ownRes := fun f => [31].contains f, spec := V.inTbl t1 }
theorem good1 : V.Good Try.prog an1 := ⟨named, V.spec_of_tbl to1, (fun _ _ _ _ h => nomatch h), V.call_none rfl⟩
set_option maxRecDepth 1000000 in
theorem e2 : V.tells Try.prog an1 150 20 a2 r2 = true := by kernel_rfl
theorem h2 : V.Holds Try.prog 20 a2 r2 := V.holds_of_tells good1 regs follows e2
def t2 : V.Tbl := [(66, [(a0, r0), (a1, r1)]), (20, [(a2, r2)])]
theorem to2 : V.TblOk Try.prog t2 := (V.TblOk.cons (V.RowOk.cons h0 (V.RowOk.cons h1 V.RowOk.nil)) (V.TblOk.cons (V.RowOk.cons h2 V.RowOk.nil) V.TblOk.nil))
def an2 : V.An := { io := fun f => [33,34,61,62,64,78,79,80,81,85,86,87,88,89,96,97,98,100,101].contains f, ownRes := fun f => [31].contains f, spec := V.inTbl t2 }
theorem good2 : V.Good Try.prog an2 := ⟨named, V.spec_of_tbl to2, (fun _ _ _ _ h => nomatch h), V.call_none rfl⟩
set_option maxRecDepth 1000000 in
theorem e3 : V.tells Try.prog an2 150 19 a3 r3 = true := by kernel_rfl
theorem h3 : V.Holds Try.prog 19 a3 r3 := V.holds_of_tells good2 regs follows e3
def t3 : V.Tbl := [(66, [(a0, r0), (a1, r1)]), (20, [(a2, r2)]), (19, [(a3, r3)])]
theorem to3 : V.TblOk Try.prog t3 := (V.TblOk.cons (V.RowOk.cons h0 (V.RowOk.cons h1 V.RowOk.nil)) (V.TblOk.cons (V.RowOk.cons h2 V.RowOk.nil) (V.TblOk.cons (V.RowOk.cons h3 V.RowOk.nil) V.TblOk.nil)))
def an3 : V.An := { io := fun f => [33,34,61,62,64,78,79,80,81,85,86,87,88,89,96,97,98,100,101].contains f, ownRes := fun f => [31].contains f, spec := V.inTbl t3 }
theorem good3 : V.Good Try.prog an3 := ⟨named, V.spec_of_tbl to3, (fun _ _ _ _ h => nomatch h), V.call_none rfl⟩
set_option maxRecDepth 1000000 in
theorem Begun : ∃ k, V.yes (V.pcall Try.prog an3 k 11 [] [] 0) = true := ⟨150, by kernel_rfl⟩
theorem good : V.Good Try.prog an3 := good3
end Go.Proofs.Ytidmlgacfdajjaa.Say
