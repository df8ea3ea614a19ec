/- RpcForms: what V tells of the law, its calls one by one. -/
import Derived.Test.YtdgihefkagoicaaGreatChecked
import Derived.Test.YtdgihefkagoicaaGreatV18
namespace Go.Proofs.YtdgihefkagoicaaGreat.Say
open Go
open V (D)
instance : V.Sig := ⟨fun _ => .nil⟩
theorem named : V.Named Tryz.prog := by
  have h : Tryz.prog.funcs.all (fun fn => fn.body.isNone || !(fn.name == "runtime.NumGoroutine")) = true := by kernel_rfl
  intro f fn c hf hc
  have := Array.all_eq_true_iff_forall_mem.1 h fn (Array.mem_of_getElem? hf)
  simpa [hc] using this
theorem regs : V.RegsP Tryz.prog := V.regs_of_check Tryz.checked.codeOk
theorem follows : Tryz.prog.follows .mixedOrders = true := by kernel_rfl
def d0 : V.D := .agg [.nil, .nil, .lst [.agg [V.txt [97, 46, 86], .lst [.agg [V.txt [109], .bool false, V.txt [105, 56], .nil, .nil]]]]]
def d1 : V.D := .lst [.int .u8 130, .int .u8 33, .int .u8 7, .int .u8 1, .int .u8 109, .int .u8 0]
def d2 : V.D := .agg [V.txt [109], .bool false, V.txt [105, 56], .nil, .nil]
def d3 : V.D := .fp [V.txt [105, 56], .int .i64 2, .int .i64 0, .nil, .int .i64 0]
def d4 : V.D := .agg [.int .i64 5, V.txt [], .lst [.agg [.int .i64 0, .int .i64 0, V.txt [105, 56], V.txt [115, 117, 99, 99, 101, 115, 115], .bool false, .int .i64 0, .int .i64 0, V.txt [], .nil, .nil]]]
def d5 : V.D := .agg [.int .i64 12, .int .i64 0, V.txt [], .lst [.agg [.int .i64 3, .int .i64 5, V.txt [], .nil, .nil]], .lst [.int .i64 0]]
def d6 : V.D := .lst [.int .u8 3, .int .u8 0, .int .u8 0, .int .u8 5, .int .u8 0]
def d7 : V.D := .lst [.int .u8 128, .int .u8 1, .int .u8 0, .int .u8 2, .int .u8 0, .int .u8 0, .int .u8 0, .int .u8 1, .int .u8 109, .int .u8 0, .int .u8 0, .int .u8 0, .int .u8 7, .int .u8 3, .int .u8 0, .int .u8 0, .int .u8 5, .int .u8 0]
def d8 : V.D := .fp [V.txt [115, 116, 114, 105, 110, 103], .int .i64 6, .int .i64 0, .nil, .int .i64 0]
def d9 : V.D := .agg [.int .i64 11, .int .i64 0, V.txt [110, 111], .nil, .nil]
def d10 : V.D := .fp [V.txt [105, 51, 50], .int .i64 3, .int .i64 0, .nil, .int .i64 0]
def d11 : V.D := .agg [.int .i64 6, V.txt [], .lst [.agg [.int .i64 1, .int .i64 0, V.txt [115, 116, 114, 105, 110, 103], V.txt [116, 101, 120, 116], .bool false, .int .i64 0, .int .i64 0, V.txt [], .nil, .nil], .agg [.int .i64 2, .int .i64 0, V.txt [105, 51, 50], V.txt [99, 111, 100, 101], .bool false, .int .i64 0, .int .i64 0, V.txt [], .nil, .nil]]]
def d12 : V.D := .agg [.int .i64 12, .int .i64 0, V.txt [], .lst [.agg [.int .i64 11, .int .i64 0, V.txt [110, 111], .nil, .nil], .agg [.int .i64 8, .int .i64 2, V.txt [], .nil, .nil]], .lst [.int .i64 1, .int .i64 2]]
def d13 : V.D := .lst [.int .u8 11, .int .u8 0, .int .u8 1, .int .u8 0, .int .u8 0, .int .u8 0, .int .u8 2, .int .u8 110, .int .u8 111, .int .u8 8, .int .u8 0, .int .u8 2, .int .u8 0, .int .u8 0, .int .u8 0, .int .u8 2, .int .u8 0]
def d14 : V.D := .lst [.int .u8 128, .int .u8 1, .int .u8 0, .int .u8 3, .int .u8 0, .int .u8 0, .int .u8 0, .int .u8 1, .int .u8 109, .int .u8 0, .int .u8 0, .int .u8 0, .int .u8 7, .int .u8 11, .int .u8 0, .int .u8 1, .int .u8 0, .int .u8 0, .int .u8 0, .int .u8 2, .int .u8 110, .int .u8 111, .int .u8 8, .int .u8 0, .int .u8 2, .int .u8 0, .int .u8 0, .int .u8 0, .int .u8 2, .int .u8 0]
def d15 : V.D := .agg [V.txt [109], .bool false, V.txt [105, 56], .nil, .lst [.agg [.int .i64 (-1), .int .i64 0, V.txt [97, 46, 88], V.txt [121], .bool false, .int .i64 0, .int .i64 0, V.txt [], .nil, .nil], .agg [.int .i64 1, .int .i64 0, V.txt [97, 46, 88], V.txt [120], .bool false, .int .i64 0, .int .i64 0, V.txt [], .nil, .nil]]]
def d16 : V.D := .agg [.int .i64 5, V.txt [], .lst [.agg [.int .i64 (-1), .int .i64 0, V.txt [97, 46, 88], V.txt [121], .bool false, .int .i64 0, .int .i64 0, V.txt [], .nil, .nil], .agg [.int .i64 0, .int .i64 0, V.txt [105, 56], V.txt [115, 117, 99, 99, 101, 115, 115], .bool false, .int .i64 0, .int .i64 0, V.txt [], .nil, .nil], .agg [.int .i64 1, .int .i64 0, V.txt [97, 46, 88], V.txt [120], .bool false, .int .i64 0, .int .i64 0, V.txt [], .nil, .nil]]]
def d17 : V.D := .agg [.lst [.agg [.int .i64 6, V.txt [97, 46, 88], .nil]], .nil, .lst [.agg [V.txt [97, 46, 86], .lst [.agg [V.txt [109], .bool false, V.txt [105, 56], .nil, .lst [.agg [.int .i64 (-1), .int .i64 0, V.txt [97, 46, 88], V.txt [121], .bool false, .int .i64 0, .int .i64 0, V.txt [], .nil, .nil], .agg [.int .i64 1, .int .i64 0, V.txt [97, 46, 88], V.txt [120], .bool false, .int .i64 0, .int .i64 0, V.txt [], .nil, .nil]]], .agg [V.txt [111], .bool true, V.txt [118, 111, 105, 100], .nil, .nil], .agg [V.txt [118], .bool false, V.txt [118, 111, 105, 100], .nil, .lst [.agg [.int .i64 1, .int .i64 0, V.txt [97, 46, 88], V.txt [120], .bool false, .int .i64 0, .int .i64 0, V.txt [], .nil, .nil]]]]]]]
def d18 : V.D := .lst [.int .u8 130, .int .u8 129, .int .u8 1, .int .u8 1, .int .u8 111, .int .u8 0]
def d19 : V.D := .agg [.int .i64 8, V.txt [], .lst [.agg [.int .i64 1, .int .i64 0, V.txt [97, 46, 88], V.txt [120], .bool false, .int .i64 0, .int .i64 0, V.txt [], .nil, .nil]]]
def d20 : V.D := .lst [.int .u8 128, .int .u8 1, .int .u8 0, .int .u8 2, .int .u8 0, .int .u8 0, .int .u8 0, .int .u8 1, .int .u8 118, .int .u8 0, .int .u8 0, .int .u8 0, .int .u8 1, .int .u8 0]
def d21 : V.D := .lst [.int .u8 130, .int .u8 33, .int .u8 1, .int .u8 1, .int .u8 111, .int .u8 0]
def d22 : V.D := .lst [.int .u8 130, .int .u8 33, .int .u8 1, .int .u8 1, .int .u8 109, .int .u8 0]
def a0 : List V.D := [d0, (.int .i64 1), (.agg [V.txt [109], .int .i64 1, .int .i32 7, .bool false]), (.agg [.int .i64 4, V.txt [], .nil]), (.agg [.int .i64 12, .int .i64 0, V.txt [], .nil, .nil]), (.agg [.int .i64 3, .int .i64 60])]
def r0 : List V.D := [d1, (.int .i64 0)]
def a1 : List V.D := [(.int .i64 1), d1]
def r1 : List V.D := [(.agg [V.txt [109], .int .i64 1, .int .i32 7, .bool false]), (.int .i64 5), (.int .i64 0)]
def a2 : List V.D := [d0, (.agg [.int .i64 4, V.txt [], .nil]), (.lst [.int .u8 0]), (.agg [.int .i64 3, .int .i64 60])]
def r2 : List V.D := [(.agg [.int .i64 12, .int .i64 0, V.txt [], .nil, .nil]), (.int .i64 1), (.int .i64 0)]
def a3 : List V.D := [d0, (.int .i64 1), (V.txt [97, 46, 86]), d1, (.agg [.int .i64 3, .int .i64 60])]
def r3 : List V.D := [d2, (.int .i32 7), (.agg [.int .i64 12, .int .i64 0, V.txt [], .nil, .nil]), (.int .i64 6), (.int .i64 0)]
def a4 : List V.D := [(V.txt [105, 56])]
def r4 : List V.D := [d3, (.int .i64 3), .nil]
def a5 : List V.D := [d0, d4, d5]
def r5 : List V.D := [(.bool true)]
def a6 : List V.D := [d0, d4, d5, (.agg [.int .i64 3, .int .i64 60])]
def r6 : List V.D := [d6, (.int .i64 0)]
def a7 : List V.D := [d0, (.int .i64 0), (.agg [V.txt [109], .int .i64 2, .int .i32 7, .bool false]), d4, d5, (.agg [.int .i64 3, .int .i64 60])]
def r7 : List V.D := [d7, (.int .i64 0)]
def a8 : List V.D := [d0, (.int .i64 0), (V.txt [97, 46, 86]), (V.txt [109]), (.int .i32 7), d5, (.agg [.int .i64 3, .int .i64 60])]
def r8 : List V.D := [d7, (.int .i64 0)]
def a9 : List V.D := [(.int .i64 0), d7]
def r9 : List V.D := [(.agg [V.txt [109], .int .i64 2, .int .i32 7, .bool false]), (.int .i64 13), (.int .i64 0)]
def a10 : List V.D := [d5]
def r10 : List V.D := [d5, (.int .i64 0)]
def a11 : List V.D := [d0, d4, d6, (.agg [.int .i64 3, .int .i64 60])]
def r11 : List V.D := [d5, (.int .i64 5), (.int .i64 0)]
def a12 : List V.D := [d0, (.int .i64 0), (V.txt [97, 46, 86]), (V.txt [109]), (.int .i32 7), d7, (.agg [.int .i64 3, .int .i64 60])]
def r12 : List V.D := [d5, (V.txt []), (.int .i32 0), (.int .i64 0)]
def a13 : List V.D := [(V.txt [115, 116, 114, 105, 110, 103])]
def r13 : List V.D := [d8, (.int .i64 11), .nil]
def a14 : List V.D := [(.agg [.nil, .nil, .nil]), (V.txt [115, 116, 114, 105, 110, 103]), d9]
def r14 : List V.D := [(.bool true)]
def a15 : List V.D := [(V.txt [105, 51, 50])]
def r15 : List V.D := [d10, (.int .i64 8), .nil]
def a16 : List V.D := [(.agg [.nil, .nil, .nil]), d11, d12]
def r16 : List V.D := [(.bool true)]
def a17 : List V.D := [(.agg [.nil, .nil, .nil]), d11, d12, (.agg [.int .i64 1, .int .i64 4611686018427387904])]
def r17 : List V.D := [d13, (.int .i64 0)]
def a18 : List V.D := [(.agg [.nil, .nil, .nil]), (.int .i64 0), (.agg [V.txt [109], .int .i64 3, .int .i32 7, .bool false]), d11, d12, (.agg [.int .i64 1, .int .i64 4611686018427387904])]
def r18 : List V.D := [d14, (.int .i64 0)]
def a19 : List V.D := [(.int .i64 0), d14]
def r19 : List V.D := [(.agg [V.txt [109], .int .i64 3, .int .i32 7, .bool false]), (.int .i64 13), (.int .i64 0)]
def a20 : List V.D := [d12]
def r20 : List V.D := [d12, (.int .i64 0)]
def a21 : List V.D := [d12]
def r21 : List V.D := [d12, (.int .i64 0)]
def a22 : List V.D := [d0, d11, d13, (.agg [.int .i64 3, .int .i64 60])]
def r22 : List V.D := [d12, (.int .i64 17), (.int .i64 0)]
def a23 : List V.D := [d0, (.int .i64 0), (V.txt [97, 46, 86]), (V.txt [109]), (.int .i32 7), d14, (.agg [.int .i64 3, .int .i64 60])]
def r23 : List V.D := [(.agg [.int .i64 0, .int .i64 0, V.txt [], .nil, .nil]), (V.txt [110, 111]), (.int .i32 2), (.int .i64 0)]
def a24 : List V.D := []
def r24 : List V.D := [(.bool true)]
def a25 : List V.D := [d15]
def r25 : List V.D := [d16]
def a26 : List V.D := [d17, (.int .i64 0), (V.txt [97, 46, 86]), (V.txt [109]), (.int .i32 1), (.agg [.int .i64 3, .int .i64 0, V.txt [], .nil, .nil]), (.agg [.int .i64 3, .int .i64 60])]
def r26 : List V.D := [.nil, (.int .i64 1)]
def a27 : List V.D := [d17, (.int .i64 1), (.agg [V.txt [111], .int .i64 4, .int .i32 1, .bool false]), (.agg [.int .i64 4, V.txt [], .nil]), (.agg [.int .i64 12, .int .i64 0, V.txt [], .nil, .nil]), (.agg [.int .i64 3, .int .i64 60])]
def r27 : List V.D := [d18, (.int .i64 0)]
def a28 : List V.D := [d17, (.int .i64 1), (V.txt [97, 46, 86]), (V.txt [111]), (.int .i32 1), (.agg [.int .i64 12, .int .i64 0, V.txt [], .nil, .nil]), (.agg [.int .i64 3, .int .i64 60])]
def r28 : List V.D := [d18, (.int .i64 0)]
def a29 : List V.D := [d17, (.int .i64 0), (V.txt [97, 46, 86]), (V.txt [109]), (.int .i32 1), (.agg [.int .i64 12, .int .i64 0, V.txt [], .nil, .nil]), (.agg [.int .i64 3, .int .i64 60])]
def r29 : List V.D := [.nil, (.int .i64 1)]
def a30 : List V.D := [d17, d19, (.agg [.int .i64 12, .int .i64 0, V.txt [], .nil, .nil]), (.agg [.int .i64 3, .int .i64 60])]
def r30 : List V.D := [(.lst [.int .u8 0]), (.int .i64 0)]
def a31 : List V.D := [d17, (.int .i64 0), (.agg [V.txt [118], .int .i64 2, .int .i32 1, .bool false]), d19, (.agg [.int .i64 12, .int .i64 0, V.txt [], .nil, .nil]), (.agg [.int .i64 3, .int .i64 60])]
def r31 : List V.D := [d20, (.int .i64 0)]
def a32 : List V.D := [d17, (.int .i64 0), (V.txt [97, 46, 86]), (V.txt [118]), (.int .i32 1), (.agg [.int .i64 12, .int .i64 0, V.txt [], .nil, .nil]), (.agg [.int .i64 3, .int .i64 60])]
def r32 : List V.D := [d20, (.int .i64 0)]
def a33 : List V.D := [(.int .i64 1), d21]
def r33 : List V.D := [(.agg [V.txt [111], .int .i64 1, .int .i32 1, .bool false]), (.int .i64 5), (.int .i64 0)]
def a34 : List V.D := [(.int .i64 1), d22]
def r34 : List V.D := [(.agg [V.txt [109], .int .i64 1, .int .i32 1, .bool false]), (.int .i64 5), (.int .i64 0)]
def t0 : V.Tbl := []
theorem to0 : V.TblOk Tryz.prog t0 := V.TblOk.nil
def an0 : V.An := { io := fun f => [34,79,110,111,140,166,178,179,186,187,189,191,192,193,194,195,196,197,198,199,200,201,202,203,204].contains f, ownRes := fun f => [33,83,104,117,118,138,177].contains f, spec := V.inTbl t0 }
theorem good0 : V.Good Tryz.prog an0 := ⟨named, V.spec_of_tbl to0, fun _ _ _ _ h => nomatch h⟩
set_option maxRecDepth 1000000 in
theorem e0 : V.tells Tryz.prog an0 400 38 a0 r0 = true := by kernel_rfl
theorem h0 : V.Holds Tryz.prog 38 a0 r0 := V.holds_of_tells good0 regs follows e0
set_option maxRecDepth 1000000 in
theorem e1 : V.tells Tryz.prog an0 400 40 a1 r1 = true := by kernel_rfl
theorem h1 : V.Holds Tryz.prog 40 a1 r1 := V.holds_of_tells good0 regs follows e1
set_option maxRecDepth 1000000 in
theorem e2 : V.tells Tryz.prog an0 400 20 a2 r2 = true := by kernel_rfl
theorem h2 : V.Holds Tryz.prog 20 a2 r2 := V.holds_of_tells good0 regs follows e2
set_option maxRecDepth 1000000 in
theorem e4 : V.tells Tryz.prog an0 400 95 a4 r4 = true := by kernel_rfl
theorem h4 : V.Holds Tryz.prog 95 a4 r4 := V.holds_of_tells good0 regs follows e4
set_option maxRecDepth 1000000 in
theorem e9 : V.tells Tryz.prog an0 400 40 a9 r9 = true := by kernel_rfl
theorem h9 : V.Holds Tryz.prog 40 a9 r9 := V.holds_of_tells good0 regs follows e9
set_option maxRecDepth 1000000 in
theorem e10 : V.tells Tryz.prog an0 400 155 a10 r10 = true := by kernel_rfl
theorem h10 : V.Holds Tryz.prog 155 a10 r10 := V.holds_of_tells good0 regs follows e10
set_option maxRecDepth 1000000 in
theorem e13 : V.tells Tryz.prog an0 400 95 a13 r13 = true := by kernel_rfl
theorem h13 : V.Holds Tryz.prog 95 a13 r13 := V.holds_of_tells good0 regs follows e13
set_option maxRecDepth 1000000 in
theorem e15 : V.tells Tryz.prog an0 400 95 a15 r15 = true := by kernel_rfl
theorem h15 : V.Holds Tryz.prog 95 a15 r15 := V.holds_of_tells good0 regs follows e15
set_option maxRecDepth 1000000 in
theorem e19 : V.tells Tryz.prog an0 400 40 a19 r19 = true := by kernel_rfl
theorem h19 : V.Holds Tryz.prog 40 a19 r19 := V.holds_of_tells good0 regs follows e19
set_option maxRecDepth 1000000 in
theorem e20 : V.tells Tryz.prog an0 400 182 a20 r20 = true := by kernel_rfl
theorem h20 : V.Holds Tryz.prog 182 a20 r20 := V.holds_of_tells good0 regs follows e20
set_option maxRecDepth 1000000 in
theorem e25 : V.tells Tryz.prog an0 400 13 a25 r25 = true := by kernel_rfl
theorem h25 : V.Holds Tryz.prog 13 a25 r25 := V.holds_of_tells good0 regs follows e25
set_option maxRecDepth 1000000 in
theorem e26 : V.tells Tryz.prog an0 400 14 a26 r26 = true := by kernel_rfl
theorem h26 : V.Holds Tryz.prog 14 a26 r26 := V.holds_of_tells good0 regs follows e26
set_option maxRecDepth 1000000 in
theorem e27 : V.tells Tryz.prog an0 400 38 a27 r27 = true := by kernel_rfl
theorem h27 : V.Holds Tryz.prog 38 a27 r27 := V.holds_of_tells good0 regs follows e27
set_option maxRecDepth 1000000 in
theorem e30 : V.tells Tryz.prog an0 400 81 a30 r30 = true := by kernel_rfl
theorem h30 : V.Holds Tryz.prog 81 a30 r30 := V.holds_of_tells good0 regs follows e30
set_option maxRecDepth 1000000 in
theorem e33 : V.tells Tryz.prog an0 400 40 a33 r33 = true := by kernel_rfl
theorem h33 : V.Holds Tryz.prog 40 a33 r33 := V.holds_of_tells good0 regs follows e33
set_option maxRecDepth 1000000 in
theorem e34 : V.tells Tryz.prog an0 400 40 a34 r34 = true := by kernel_rfl
theorem h34 : V.Holds Tryz.prog 40 a34 r34 := V.holds_of_tells good0 regs follows e34
def t1 : V.Tbl := [(38, [(a0, r0), (a27, r27)]), (40, [(a1, r1), (a9, r9), (a19, r19), (a33, r33), (a34, r34)]), (20, [(a2, r2)]), (95, [(a4, r4), (a13, r13), (a15, r15)]), (155, [(a10, r10)]), (182, [(a20, r20)]), (13, [(a25, r25)]), (14, [(a26, r26)]), (81, [(a30, r30)])]
theorem to1 : V.TblOk Tryz.prog t1 := (V.TblOk.cons (V.RowOk.cons h0 (V.RowOk.cons h27 V.RowOk.nil)) (V.TblOk.cons (V.RowOk.cons h1 (V.RowOk.cons h9 (V.RowOk.cons h19 (V.RowOk.cons h33 (V.RowOk.cons h34 V.RowOk.nil))))) (V.TblOk.cons (V.RowOk.cons h2 V.RowOk.nil) (V.TblOk.cons (V.RowOk.cons h4 (V.RowOk.cons h13 (V.RowOk.cons h15 V.RowOk.nil))) (V.TblOk.cons (V.RowOk.cons h10 V.RowOk.nil) (V.TblOk.cons (V.RowOk.cons h20 V.RowOk.nil) (V.TblOk.cons (V.RowOk.cons h25 V.RowOk.nil) (V.TblOk.cons (V.RowOk.cons h26 V.RowOk.nil) (V.TblOk.cons (V.RowOk.cons h30 V.RowOk.nil) V.TblOk.nil)))))))))
def an1 : V.An := { io := fun f => [34,79,110,111,140,166,178,179,186,187,189,191,192,193,194,195,196,197,198,199,200,201,202,203,204].contains f, ownRes := fun f => [33,83,104,117,118,138,177].contains f, spec := V.inTbl t1 }
theorem good1 : V.Good Tryz.prog an1 := ⟨named, V.spec_of_tbl to1, fun _ _ _ _ h => nomatch h⟩
set_option maxRecDepth 1000000 in
theorem e3 : V.tells Tryz.prog an1 400 16 a3 r3 = true := by kernel_rfl
theorem h3 : V.Holds Tryz.prog 16 a3 r3 := V.holds_of_tells good1 regs follows e3
set_option maxRecDepth 1000000 in
theorem e5 : V.tells Tryz.prog an1 400 44 a5 r5 = true := by kernel_rfl
theorem h5 : V.Holds Tryz.prog 44 a5 r5 := V.holds_of_tells good1 regs follows e5
set_option maxRecDepth 1000000 in
theorem e11 : V.tells Tryz.prog an1 400 82 a11 r11 = true := by kernel_rfl
theorem h11 : V.Holds Tryz.prog 82 a11 r11 := V.holds_of_tells good1 regs follows e11
set_option maxRecDepth 1000000 in
theorem e14 : V.tells Tryz.prog an1 400 23 a14 r14 = true := by kernel_rfl
theorem h14 : V.Holds Tryz.prog 23 a14 r14 := V.holds_of_tells good1 regs follows e14
set_option maxRecDepth 1000000 in
theorem e21 : V.tells Tryz.prog an1 400 155 a21 r21 = true := by kernel_rfl
theorem h21 : V.Holds Tryz.prog 155 a21 r21 := V.holds_of_tells good1 regs follows e21
set_option maxRecDepth 1000000 in
theorem e28 : V.tells Tryz.prog an1 400 14 a28 r28 = true := by kernel_rfl
theorem h28 : V.Holds Tryz.prog 14 a28 r28 := V.holds_of_tells good1 regs follows e28
set_option maxRecDepth 1000000 in
theorem e29 : V.tells Tryz.prog an1 400 15 a29 r29 = true := by kernel_rfl
theorem h29 : V.Holds Tryz.prog 15 a29 r29 := V.holds_of_tells good1 regs follows e29
set_option maxRecDepth 1000000 in
theorem e31 : V.tells Tryz.prog an1 400 38 a31 r31 = true := by kernel_rfl
theorem h31 : V.Holds Tryz.prog 38 a31 r31 := V.holds_of_tells good1 regs follows e31
def t2 : V.Tbl := [(38, [(a0, r0), (a27, r27), (a31, r31)]), (40, [(a1, r1), (a9, r9), (a19, r19), (a33, r33), (a34, r34)]), (20, [(a2, r2)]), (16, [(a3, r3)]), (95, [(a4, r4), (a13, r13), (a15, r15)]), (44, [(a5, r5)]), (155, [(a10, r10), (a21, r21)]), (82, [(a11, r11)]), (23, [(a14, r14)]), (182, [(a20, r20)]), (13, [(a25, r25)]), (14, [(a26, r26), (a28, r28)]), (15, [(a29, r29)]), (81, [(a30, r30)])]
theorem to2 : V.TblOk Tryz.prog t2 := (V.TblOk.cons (V.RowOk.cons h0 (V.RowOk.cons h27 (V.RowOk.cons h31 V.RowOk.nil))) (V.TblOk.cons (V.RowOk.cons h1 (V.RowOk.cons h9 (V.RowOk.cons h19 (V.RowOk.cons h33 (V.RowOk.cons h34 V.RowOk.nil))))) (V.TblOk.cons (V.RowOk.cons h2 V.RowOk.nil) (V.TblOk.cons (V.RowOk.cons h3 V.RowOk.nil) (V.TblOk.cons (V.RowOk.cons h4 (V.RowOk.cons h13 (V.RowOk.cons h15 V.RowOk.nil))) (V.TblOk.cons (V.RowOk.cons h5 V.RowOk.nil) (V.TblOk.cons (V.RowOk.cons h10 (V.RowOk.cons h21 V.RowOk.nil)) (V.TblOk.cons (V.RowOk.cons h11 V.RowOk.nil) (V.TblOk.cons (V.RowOk.cons h14 V.RowOk.nil) (V.TblOk.cons (V.RowOk.cons h20 V.RowOk.nil) (V.TblOk.cons (V.RowOk.cons h25 V.RowOk.nil) (V.TblOk.cons (V.RowOk.cons h26 (V.RowOk.cons h28 V.RowOk.nil)) (V.TblOk.cons (V.RowOk.cons h29 V.RowOk.nil) (V.TblOk.cons (V.RowOk.cons h30 V.RowOk.nil) V.TblOk.nil))))))))))))))
def an2 : V.An := { io := fun f => [34,79,110,111,140,166,178,179,186,187,189,191,192,193,194,195,196,197,198,199,200,201,202,203,204].contains f, ownRes := fun f => [33,83,104,117,118,138,177].contains f, spec := V.inTbl t2 }
theorem good2 : V.Good Tryz.prog an2 := ⟨named, V.spec_of_tbl to2, fun _ _ _ _ h => nomatch h⟩
set_option maxRecDepth 1000000 in
theorem e6 : V.tells Tryz.prog an2 400 81 a6 r6 = true := by kernel_rfl
theorem h6 : V.Holds Tryz.prog 81 a6 r6 := V.holds_of_tells good2 regs follows e6
set_option maxRecDepth 1000000 in
theorem e12 : V.tells Tryz.prog an2 400 17 a12 r12 = true := by kernel_rfl
theorem h12 : V.Holds Tryz.prog 17 a12 r12 := V.holds_of_tells good2 regs follows e12
set_option maxRecDepth 1000000 in
theorem e16 : V.tells Tryz.prog an2 400 44 a16 r16 = true := by kernel_rfl
theorem h16 : V.Holds Tryz.prog 44 a16 r16 := V.holds_of_tells good2 regs follows e16
set_option maxRecDepth 1000000 in
theorem e22 : V.tells Tryz.prog an2 400 82 a22 r22 = true := by kernel_rfl
theorem h22 : V.Holds Tryz.prog 82 a22 r22 := V.holds_of_tells good2 regs follows e22
set_option maxRecDepth 1000000 in
theorem e32 : V.tells Tryz.prog an2 400 15 a32 r32 = true := by kernel_rfl
theorem h32 : V.Holds Tryz.prog 15 a32 r32 := V.holds_of_tells good2 regs follows e32
def t3 : V.Tbl := [(38, [(a0, r0), (a27, r27), (a31, r31)]), (40, [(a1, r1), (a9, r9), (a19, r19), (a33, r33), (a34, r34)]), (20, [(a2, r2)]), (16, [(a3, r3)]), (95, [(a4, r4), (a13, r13), (a15, r15)]), (44, [(a5, r5), (a16, r16)]), (81, [(a6, r6), (a30, r30)]), (155, [(a10, r10), (a21, r21)]), (82, [(a11, r11), (a22, r22)]), (17, [(a12, r12)]), (23, [(a14, r14)]), (182, [(a20, r20)]), (13, [(a25, r25)]), (14, [(a26, r26), (a28, r28)]), (15, [(a29, r29), (a32, r32)])]
theorem to3 : V.TblOk Tryz.prog t3 := (V.TblOk.cons (V.RowOk.cons h0 (V.RowOk.cons h27 (V.RowOk.cons h31 V.RowOk.nil))) (V.TblOk.cons (V.RowOk.cons h1 (V.RowOk.cons h9 (V.RowOk.cons h19 (V.RowOk.cons h33 (V.RowOk.cons h34 V.RowOk.nil))))) (V.TblOk.cons (V.RowOk.cons h2 V.RowOk.nil) (V.TblOk.cons (V.RowOk.cons h3 V.RowOk.nil) (V.TblOk.cons (V.RowOk.cons h4 (V.RowOk.cons h13 (V.RowOk.cons h15 V.RowOk.nil))) (V.TblOk.cons (V.RowOk.cons h5 (V.RowOk.cons h16 V.RowOk.nil)) (V.TblOk.cons (V.RowOk.cons h6 (V.RowOk.cons h30 V.RowOk.nil)) (V.TblOk.cons (V.RowOk.cons h10 (V.RowOk.cons h21 V.RowOk.nil)) (V.TblOk.cons (V.RowOk.cons h11 (V.RowOk.cons h22 V.RowOk.nil)) (V.TblOk.cons (V.RowOk.cons h12 V.RowOk.nil) (V.TblOk.cons (V.RowOk.cons h14 V.RowOk.nil) (V.TblOk.cons (V.RowOk.cons h20 V.RowOk.nil) (V.TblOk.cons (V.RowOk.cons h25 V.RowOk.nil) (V.TblOk.cons (V.RowOk.cons h26 (V.RowOk.cons h28 V.RowOk.nil)) (V.TblOk.cons (V.RowOk.cons h29 (V.RowOk.cons h32 V.RowOk.nil)) V.TblOk.nil)))))))))))))))
def an3 : V.An := { io := fun f => [34,79,110,111,140,166,178,179,186,187,189,191,192,193,194,195,196,197,198,199,200,201,202,203,204].contains f, ownRes := fun f => [33,83,104,117,118,138,177].contains f, spec := V.inTbl t3 }
theorem good3 : V.Good Tryz.prog an3 := ⟨named, V.spec_of_tbl to3, fun _ _ _ _ h => nomatch h⟩
set_option maxRecDepth 1000000 in
theorem e7 : V.tells Tryz.prog an3 400 38 a7 r7 = true := by kernel_rfl
theorem h7 : V.Holds Tryz.prog 38 a7 r7 := V.holds_of_tells good3 regs follows e7
set_option maxRecDepth 1000000 in
theorem e17 : V.tells Tryz.prog an3 400 81 a17 r17 = true := by kernel_rfl
theorem h17 : V.Holds Tryz.prog 81 a17 r17 := V.holds_of_tells good3 regs follows e17
set_option maxRecDepth 1000000 in
theorem e23 : V.tells Tryz.prog an3 400 17 a23 r23 = true := by kernel_rfl
theorem h23 : V.Holds Tryz.prog 17 a23 r23 := V.holds_of_tells good3 regs follows e23
def t4 : V.Tbl := [(38, [(a0, r0), (a7, r7), (a27, r27), (a31, r31)]), (40, [(a1, r1), (a9, r9), (a19, r19), (a33, r33), (a34, r34)]), (20, [(a2, r2)]), (16, [(a3, r3)]), (95, [(a4, r4), (a13, r13), (a15, r15)]), (44, [(a5, r5), (a16, r16)]), (81, [(a6, r6), (a17, r17), (a30, r30)]), (155, [(a10, r10), (a21, r21)]), (82, [(a11, r11), (a22, r22)]), (17, [(a12, r12), (a23, r23)]), (23, [(a14, r14)]), (182, [(a20, r20)]), (13, [(a25, r25)]), (14, [(a26, r26), (a28, r28)]), (15, [(a29, r29), (a32, r32)])]
theorem to4 : V.TblOk Tryz.prog t4 := (V.TblOk.cons (V.RowOk.cons h0 (V.RowOk.cons h7 (V.RowOk.cons h27 (V.RowOk.cons h31 V.RowOk.nil)))) (V.TblOk.cons (V.RowOk.cons h1 (V.RowOk.cons h9 (V.RowOk.cons h19 (V.RowOk.cons h33 (V.RowOk.cons h34 V.RowOk.nil))))) (V.TblOk.cons (V.RowOk.cons h2 V.RowOk.nil) (V.TblOk.cons (V.RowOk.cons h3 V.RowOk.nil) (V.TblOk.cons (V.RowOk.cons h4 (V.RowOk.cons h13 (V.RowOk.cons h15 V.RowOk.nil))) (V.TblOk.cons (V.RowOk.cons h5 (V.RowOk.cons h16 V.RowOk.nil)) (V.TblOk.cons (V.RowOk.cons h6 (V.RowOk.cons h17 (V.RowOk.cons h30 V.RowOk.nil))) (V.TblOk.cons (V.RowOk.cons h10 (V.RowOk.cons h21 V.RowOk.nil)) (V.TblOk.cons (V.RowOk.cons h11 (V.RowOk.cons h22 V.RowOk.nil)) (V.TblOk.cons (V.RowOk.cons h12 (V.RowOk.cons h23 V.RowOk.nil)) (V.TblOk.cons (V.RowOk.cons h14 V.RowOk.nil) (V.TblOk.cons (V.RowOk.cons h20 V.RowOk.nil) (V.TblOk.cons (V.RowOk.cons h25 V.RowOk.nil) (V.TblOk.cons (V.RowOk.cons h26 (V.RowOk.cons h28 V.RowOk.nil)) (V.TblOk.cons (V.RowOk.cons h29 (V.RowOk.cons h32 V.RowOk.nil)) V.TblOk.nil)))))))))))))))
def an4 : V.An := { io := fun f => [34,79,110,111,140,166,178,179,186,187,189,191,192,193,194,195,196,197,198,199,200,201,202,203,204].contains f, ownRes := fun f => [33,83,104,117,118,138,177].contains f, spec := V.inTbl t4 }
theorem good4 : V.Good Tryz.prog an4 := ⟨named, V.spec_of_tbl to4, fun _ _ _ _ h => nomatch h⟩
set_option maxRecDepth 1000000 in
theorem e8 : V.tells Tryz.prog an4 400 15 a8 r8 = true := by kernel_rfl
theorem h8 : V.Holds Tryz.prog 15 a8 r8 := V.holds_of_tells good4 regs follows e8
set_option maxRecDepth 1000000 in
theorem e18 : V.tells Tryz.prog an4 400 38 a18 r18 = true := by kernel_rfl
theorem h18 : V.Holds Tryz.prog 38 a18 r18 := V.holds_of_tells good4 regs follows e18
def t5 : V.Tbl := [(38, [(a0, r0), (a7, r7), (a18, r18), (a27, r27), (a31, r31)]), (40, [(a1, r1), (a9, r9), (a19, r19), (a33, r33), (a34, r34)]), (20, [(a2, r2)]), (16, [(a3, r3)]), (95, [(a4, r4), (a13, r13), (a15, r15)]), (44, [(a5, r5), (a16, r16)]), (81, [(a6, r6), (a17, r17), (a30, r30)]), (15, [(a8, r8), (a29, r29), (a32, r32)]), (155, [(a10, r10), (a21, r21)]), (82, [(a11, r11), (a22, r22)]), (17, [(a12, r12), (a23, r23)]), (23, [(a14, r14)]), (182, [(a20, r20)]), (13, [(a25, r25)]), (14, [(a26, r26), (a28, r28)])]
theorem to5 : V.TblOk Tryz.prog t5 := (V.TblOk.cons (V.RowOk.cons h0 (V.RowOk.cons h7 (V.RowOk.cons h18 (V.RowOk.cons h27 (V.RowOk.cons h31 V.RowOk.nil))))) (V.TblOk.cons (V.RowOk.cons h1 (V.RowOk.cons h9 (V.RowOk.cons h19 (V.RowOk.cons h33 (V.RowOk.cons h34 V.RowOk.nil))))) (V.TblOk.cons (V.RowOk.cons h2 V.RowOk.nil) (V.TblOk.cons (V.RowOk.cons h3 V.RowOk.nil) (V.TblOk.cons (V.RowOk.cons h4 (V.RowOk.cons h13 (V.RowOk.cons h15 V.RowOk.nil))) (V.TblOk.cons (V.RowOk.cons h5 (V.RowOk.cons h16 V.RowOk.nil)) (V.TblOk.cons (V.RowOk.cons h6 (V.RowOk.cons h17 (V.RowOk.cons h30 V.RowOk.nil))) (V.TblOk.cons (V.RowOk.cons h8 (V.RowOk.cons h29 (V.RowOk.cons h32 V.RowOk.nil))) (V.TblOk.cons (V.RowOk.cons h10 (V.RowOk.cons h21 V.RowOk.nil)) (V.TblOk.cons (V.RowOk.cons h11 (V.RowOk.cons h22 V.RowOk.nil)) (V.TblOk.cons (V.RowOk.cons h12 (V.RowOk.cons h23 V.RowOk.nil)) (V.TblOk.cons (V.RowOk.cons h14 V.RowOk.nil) (V.TblOk.cons (V.RowOk.cons h20 V.RowOk.nil) (V.TblOk.cons (V.RowOk.cons h25 V.RowOk.nil) (V.TblOk.cons (V.RowOk.cons h26 (V.RowOk.cons h28 V.RowOk.nil)) V.TblOk.nil)))))))))))))))
def an5 : V.An := { io := fun f => [34,79,110,111,140,166,178,179,186,187,189,191,192,193,194,195,196,197,198,199,200,201,202,203,204].contains f, ownRes := fun f => [33,83,104,117,118,138,177].contains f, spec := V.inTbl t5 }
theorem good5 : V.Good Tryz.prog an5 := ⟨named, V.spec_of_tbl to5, fun _ _ _ _ h => nomatch h⟩
set_option maxRecDepth 1000000 in
theorem e24 : V.tells Tryz.prog an5 400 11 a24 r24 = true := by kernel_rfl
theorem h24 : V.Holds Tryz.prog 11 a24 r24 := V.holds_of_tells good5 regs follows e24
def t6 : V.Tbl := [(38, [(a0, r0), (a7, r7), (a18, r18), (a27, r27), (a31, r31)]), (40, [(a1, r1), (a9, r9), (a19, r19), (a33, r33), (a34, r34)]), (20, [(a2, r2)]), (16, [(a3, r3)]), (95, [(a4, r4), (a13, r13), (a15, r15)]), (44, [(a5, r5), (a16, r16)]), (81, [(a6, r6), (a17, r17), (a30, r30)]), (15, [(a8, r8), (a29, r29), (a32, r32)]), (155, [(a10, r10), (a21, r21)]), (82, [(a11, r11), (a22, r22)]), (17, [(a12, r12), (a23, r23)]), (23, [(a14, r14)]), (182, [(a20, r20)]), (11, [(a24, r24)]), (13, [(a25, r25)]), (14, [(a26, r26), (a28, r28)])]
theorem to6 : V.TblOk Tryz.prog t6 := (V.TblOk.cons (V.RowOk.cons h0 (V.RowOk.cons h7 (V.RowOk.cons h18 (V.RowOk.cons h27 (V.RowOk.cons h31 V.RowOk.nil))))) (V.TblOk.cons (V.RowOk.cons h1 (V.RowOk.cons h9 (V.RowOk.cons h19 (V.RowOk.cons h33 (V.RowOk.cons h34 V.RowOk.nil))))) (V.TblOk.cons (V.RowOk.cons h2 V.RowOk.nil) (V.TblOk.cons (V.RowOk.cons h3 V.RowOk.nil) (V.TblOk.cons (V.RowOk.cons h4 (V.RowOk.cons h13 (V.RowOk.cons h15 V.RowOk.nil))) (V.TblOk.cons (V.RowOk.cons h5 (V.RowOk.cons h16 V.RowOk.nil)) (V.TblOk.cons (V.RowOk.cons h6 (V.RowOk.cons h17 (V.RowOk.cons h30 V.RowOk.nil))) (V.TblOk.cons (V.RowOk.cons h8 (V.RowOk.cons h29 (V.RowOk.cons h32 V.RowOk.nil))) (V.TblOk.cons (V.RowOk.cons h10 (V.RowOk.cons h21 V.RowOk.nil)) (V.TblOk.cons (V.RowOk.cons h11 (V.RowOk.cons h22 V.RowOk.nil)) (V.TblOk.cons (V.RowOk.cons h12 (V.RowOk.cons h23 V.RowOk.nil)) (V.TblOk.cons (V.RowOk.cons h14 V.RowOk.nil) (V.TblOk.cons (V.RowOk.cons h20 V.RowOk.nil) (V.TblOk.cons (V.RowOk.cons h24 V.RowOk.nil) (V.TblOk.cons (V.RowOk.cons h25 V.RowOk.nil) (V.TblOk.cons (V.RowOk.cons h26 (V.RowOk.cons h28 V.RowOk.nil)) V.TblOk.nil))))))))))))))))
def an6 : V.An := { io := fun f => [34,79,110,111,140,166,178,179,186,187,189,191,192,193,194,195,196,197,198,199,200,201,202,203,204].contains f, ownRes := fun f => [33,83,104,117,118,138,177].contains f, spec := V.inTbl t6 }
theorem good6 : V.Good Tryz.prog an6 := ⟨named, V.spec_of_tbl to6, fun _ _ _ _ h => nomatch h⟩
set_option maxRecDepth 1000000 in
theorem RpcForms : ∃ k, V.yes (V.pcall Tryz.prog an6 k 5 [] [] 0) = true := ⟨400, by kernel_rfl⟩
theorem good : V.Good Tryz.prog an6 := good6
end Go.Proofs.YtdgihefkagoicaaGreat.Say
