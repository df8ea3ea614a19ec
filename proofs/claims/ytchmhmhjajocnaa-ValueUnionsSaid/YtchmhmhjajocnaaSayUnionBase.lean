/- ValueUnions: what V tells of the law, its cases one by one. -/
import Derived.Test.YtchmhmhjajocnaaChecked
import Derived.Test.YtchmhmhjajocnaaV23
set_option linter.unusedVariables false
set_option linter.unusedSimpArgs false
namespace Go.Proofs.Ytchmhmhjajocnaa.Say
open Go Go.RowKit
open V (D)
instance : V.Sig := V.sig0
theorem named : V.Named Try.prog := by
  have h : Try.prog.funcs.all (fun fn => fn.body.isNone || !(fn.name == "runtime.NumGoroutine")) = true := by kernel_rfl
  intro f fn c hf hc
  have := Array.all_eq_true_iff_forall_mem.1 h fn (Array.mem_of_getElem? hf)
  simpa [hc] using this
theorem regs : V.RegsP Try.prog := V.regs_of_check Try.checked.codeOk
theorem follows : Try.prog.follows .mixedOrders = true := by kernel_rfl
def d0 : V.D := .fp [V.txt [97, 46, 65], .int .i64 3, .int .i64 0, .lst [V.txt [97, 46, 65]], .int .i64 0]
def d1 : V.D := .agg [.lst [.agg [.int .i64 4, V.txt [97, 46, 65], .lst [.agg [.int .i64 1, .int .i64 1, V.txt [105, 56], V.txt [], .bool false, .int .i64 0, .int .i64 0, V.txt [], .nil, .nil]]]], .nil, .nil]
def d2 : V.D := .fp [V.txt [105, 56], .int .i64 2, .int .i64 0, .nil, .int .i64 0]
def d3 : V.D := .agg [.int .i64 4, V.txt [97, 46, 65], .lst [.agg [.int .i64 1, .int .i64 1, V.txt [105, 56], V.txt [], .bool false, .int .i64 0, .int .i64 0, V.txt [], .nil, .nil]]]
def d4 : V.D := .agg [.int .i64 12, .int .i64 0, V.txt [], .lst [.agg [.int .i64 3, .int .i64 5, V.txt [], .nil, .nil]], .lst [.int .i64 1]]
def d5 : V.D := .agg [.int .i64 4, V.txt [], .lst [.agg [.int .i64 1, .int .i64 0, V.txt [105, 56], V.txt [], .bool false, .int .i64 0, .int .i64 0, V.txt [], .nil, .nil], .agg [.int .i64 2, .int .i64 1, V.txt [105, 56], V.txt [], .bool false, .int .i64 0, .int .i64 0, V.txt [], .nil, .nil], .agg [.int .i64 3, .int .i64 0, V.txt [105, 56], V.txt [], .bool false, .int .i64 0, .int .i64 0, V.txt [], .nil, .nil], .agg [.int .i64 4, .int .i64 0, V.txt [105, 56], V.txt [], .bool false, .int .i64 0, .int .i64 0, V.txt [], .nil, .nil]]]
def d6 : V.D := .agg [.int .i64 12, .int .i64 0, V.txt [], .lst [.agg [.int .i64 3, .int .i64 0, V.txt [], .nil, .nil], .agg [.int .i64 3, .int .i64 1, V.txt [], .nil, .nil]], .lst [.int .i64 1, .int .i64 2]]
def d7 : V.D := .agg [.int .i64 5, V.txt [], .lst [.agg [.int .i64 1, .int .i64 0, V.txt [105, 56], V.txt [], .bool false, .int .i64 0, .int .i64 0, V.txt [], .nil, .nil], .agg [.int .i64 2, .int .i64 0, V.txt [105, 56], V.txt [], .bool false, .int .i64 0, .int .i64 0, V.txt [], .nil, .nil], .agg [.int .i64 3, .int .i64 0, V.txt [105, 56], V.txt [], .bool false, .int .i64 0, .int .i64 0, V.txt [], .nil, .nil], .agg [.int .i64 4, .int .i64 0, V.txt [105, 56], V.txt [], .bool false, .int .i64 0, .int .i64 0, V.txt [], .nil, .nil]]]
def a0 : List V.D := [(V.txt [97, 46, 65])]
def r0 : List V.D := [d0, (.int .i64 0), .nil]
def a1 : List V.D := [d1, (V.txt [97, 46, 65])]
def r1 : List V.D := [(.int .i64 12)]
def a2 : List V.D := [(V.txt [105, 56])]
def r2 : List V.D := [d2, (.int .i64 3), .nil]
def a3 : List V.D := [d1, (V.txt [105, 56]), (.agg [.int .i64 3, .int .i64 5, V.txt [], .nil, .nil])]
def r3 : List V.D := [(.bool true)]
def a4 : List V.D := [d1, d3, d4]
def r4 : List V.D := [(.bool true)]
def a5 : List V.D := [d1, (V.txt [97, 46, 65]), d4]
def r5 : List V.D := [(.bool true)]
def a6 : List V.D := [d1, (V.txt [105, 56]), (.agg [.int .i64 3, .int .i64 128, V.txt [], .nil, .nil])]
def r6 : List V.D := [(.bool false)]
def a7 : List V.D := []
def r7 : List V.D := [(.bool true)]
def a8 : List V.D := [(.agg [.nil, .nil, .nil]), (V.txt [105, 56]), (.agg [.int .i64 3, .int .i64 0, V.txt [], .nil, .nil])]
def r8 : List V.D := [(.bool true)]
def a9 : List V.D := [(.agg [.nil, .nil, .nil]), (V.txt [105, 56]), (.agg [.int .i64 3, .int .i64 1, V.txt [], .nil, .nil])]
def r9 : List V.D := [(.bool true)]
def a10 : List V.D := [(.agg [.nil, .nil, .nil]), d5, d6]
def r10 : List V.D := [(.bool true)]
def a11 : List V.D := [(.agg [.nil, .nil, .nil]), d7, (.agg [.int .i64 12, .int .i64 0, V.txt [], .nil, .nil])]
def r11 : List V.D := [(.bool false)]
def t0 : V.Tbl := []
theorem to0 : V.TblOk Try.prog t0 := V.TblOk.nil
def an0 : V.An := { io := fun f => [].contains f, ownRes := fun f => [].contains f, spec := V.inTbl t0 }
theorem good0 : V.Good Try.prog an0 := ⟨named, V.spec_of_tbl to0, fun _ _ _ _ h => nomatch h⟩
set_option maxRecDepth 1000000 in
theorem e0 : V.tells Try.prog an0 400 25 a0 r0 = true := by kernel_rfl
theorem h0 : V.Holds Try.prog 25 a0 r0 := V.holds_of_tells good0 regs follows e0
set_option maxRecDepth 1000000 in
theorem e2 : V.tells Try.prog an0 400 25 a2 r2 = true := by kernel_rfl
theorem h2 : V.Holds Try.prog 25 a2 r2 := V.holds_of_tells good0 regs follows e2
set_option maxRecDepth 1000000 in
theorem e11 : V.tells Try.prog an0 400 5 a11 r11 = true := by kernel_rfl
theorem h11 : V.Holds Try.prog 5 a11 r11 := V.holds_of_tells good0 regs follows e11
def t1 : V.Tbl := [(25, [(a0, r0), (a2, r2)]), (5, [(a11, r11)])]
theorem to1 : V.TblOk Try.prog t1 := (V.TblOk.cons (V.RowOk.cons h0 (V.RowOk.cons h2 V.RowOk.nil)) (V.TblOk.cons (V.RowOk.cons h11 V.RowOk.nil) V.TblOk.nil))
def an1 : V.An := { io := fun f => [].contains f, ownRes := fun f => [].contains f, spec := V.inTbl t1 }
theorem good1 : V.Good Try.prog an1 := ⟨named, V.spec_of_tbl to1, fun _ _ _ _ h => nomatch h⟩
set_option maxRecDepth 1000000 in
theorem e1 : V.tells Try.prog an1 400 8 a1 r1 = true := by kernel_rfl
theorem h1 : V.Holds Try.prog 8 a1 r1 := V.holds_of_tells good1 regs follows e1
set_option maxRecDepth 1000000 in
theorem e3 : V.tells Try.prog an1 400 7 a3 r3 = true := by kernel_rfl
theorem h3 : V.Holds Try.prog 7 a3 r3 := V.holds_of_tells good1 regs follows e3
set_option maxRecDepth 1000000 in
theorem e6 : V.tells Try.prog an1 400 7 a6 r6 = true := by kernel_rfl
theorem h6 : V.Holds Try.prog 7 a6 r6 := V.holds_of_tells good1 regs follows e6
set_option maxRecDepth 1000000 in
theorem e8 : V.tells Try.prog an1 400 7 a8 r8 = true := by kernel_rfl
theorem h8 : V.Holds Try.prog 7 a8 r8 := V.holds_of_tells good1 regs follows e8
set_option maxRecDepth 1000000 in
theorem e9 : V.tells Try.prog an1 400 7 a9 r9 = true := by kernel_rfl
theorem h9 : V.Holds Try.prog 7 a9 r9 := V.holds_of_tells good1 regs follows e9
def t2 : V.Tbl := [(25, [(a0, r0), (a2, r2)]), (8, [(a1, r1)]), (7, [(a3, r3), (a6, r6), (a8, r8), (a9, r9)]), (5, [(a11, r11)])]
theorem to2 : V.TblOk Try.prog t2 := (V.TblOk.cons (V.RowOk.cons h0 (V.RowOk.cons h2 V.RowOk.nil)) (V.TblOk.cons (V.RowOk.cons h1 V.RowOk.nil) (V.TblOk.cons (V.RowOk.cons h3 (V.RowOk.cons h6 (V.RowOk.cons h8 (V.RowOk.cons h9 V.RowOk.nil)))) (V.TblOk.cons (V.RowOk.cons h11 V.RowOk.nil) V.TblOk.nil))))
def an2 : V.An := { io := fun f => [].contains f, ownRes := fun f => [].contains f, spec := V.inTbl t2 }
theorem good2 : V.Good Try.prog an2 := ⟨named, V.spec_of_tbl to2, fun _ _ _ _ h => nomatch h⟩
set_option maxRecDepth 1000000 in
theorem e4 : V.tells Try.prog an2 400 5 a4 r4 = true := by kernel_rfl
theorem h4 : V.Holds Try.prog 5 a4 r4 := V.holds_of_tells good2 regs follows e4
set_option maxRecDepth 1000000 in
theorem e10 : V.tells Try.prog an2 400 5 a10 r10 = true := by kernel_rfl
theorem h10 : V.Holds Try.prog 5 a10 r10 := V.holds_of_tells good2 regs follows e10
def t3 : V.Tbl := [(25, [(a0, r0), (a2, r2)]), (8, [(a1, r1)]), (7, [(a3, r3), (a6, r6), (a8, r8), (a9, r9)]), (5, [(a4, r4), (a10, r10), (a11, r11)])]
theorem to3 : V.TblOk Try.prog t3 := (V.TblOk.cons (V.RowOk.cons h0 (V.RowOk.cons h2 V.RowOk.nil)) (V.TblOk.cons (V.RowOk.cons h1 V.RowOk.nil) (V.TblOk.cons (V.RowOk.cons h3 (V.RowOk.cons h6 (V.RowOk.cons h8 (V.RowOk.cons h9 V.RowOk.nil)))) (V.TblOk.cons (V.RowOk.cons h4 (V.RowOk.cons h10 (V.RowOk.cons h11 V.RowOk.nil))) V.TblOk.nil))))
def an3 : V.An := { io := fun f => [].contains f, ownRes := fun f => [].contains f, spec := V.inTbl t3 }
theorem good3 : V.Good Try.prog an3 := ⟨named, V.spec_of_tbl to3, fun _ _ _ _ h => nomatch h⟩
set_option maxRecDepth 1000000 in
theorem e5 : V.tells Try.prog an3 400 7 a5 r5 = true := by kernel_rfl
theorem h5 : V.Holds Try.prog 7 a5 r5 := V.holds_of_tells good3 regs follows e5
def t4 : V.Tbl := [(25, [(a0, r0), (a2, r2)]), (8, [(a1, r1)]), (7, [(a3, r3), (a5, r5), (a6, r6), (a8, r8), (a9, r9)]), (5, [(a4, r4), (a10, r10), (a11, r11)])]
theorem to4 : V.TblOk Try.prog t4 := (V.TblOk.cons (V.RowOk.cons h0 (V.RowOk.cons h2 V.RowOk.nil)) (V.TblOk.cons (V.RowOk.cons h1 V.RowOk.nil) (V.TblOk.cons (V.RowOk.cons h3 (V.RowOk.cons h5 (V.RowOk.cons h6 (V.RowOk.cons h8 (V.RowOk.cons h9 V.RowOk.nil))))) (V.TblOk.cons (V.RowOk.cons h4 (V.RowOk.cons h10 (V.RowOk.cons h11 V.RowOk.nil))) V.TblOk.nil))))
def an4 : V.An := { io := fun f => [].contains f, ownRes := fun f => [].contains f, spec := V.inTbl t4 }
theorem good4 : V.Good Try.prog an4 := ⟨named, V.spec_of_tbl to4, fun _ _ _ _ h => nomatch h⟩
set_option maxRecDepth 1000000 in
theorem e7 : V.tells Try.prog an4 400 4 a7 r7 = true := by kernel_rfl
theorem h7 : V.Holds Try.prog 4 a7 r7 := V.holds_of_tells good4 regs follows e7
def t5 : V.Tbl := [(25, [(a0, r0), (a2, r2)]), (8, [(a1, r1)]), (7, [(a3, r3), (a5, r5), (a6, r6), (a8, r8), (a9, r9)]), (5, [(a4, r4), (a10, r10), (a11, r11)]), (4, [(a7, r7)])]
theorem to5 : V.TblOk Try.prog t5 := (V.TblOk.cons (V.RowOk.cons h0 (V.RowOk.cons h2 V.RowOk.nil)) (V.TblOk.cons (V.RowOk.cons h1 V.RowOk.nil) (V.TblOk.cons (V.RowOk.cons h3 (V.RowOk.cons h5 (V.RowOk.cons h6 (V.RowOk.cons h8 (V.RowOk.cons h9 V.RowOk.nil))))) (V.TblOk.cons (V.RowOk.cons h4 (V.RowOk.cons h10 (V.RowOk.cons h11 V.RowOk.nil))) (V.TblOk.cons (V.RowOk.cons h7 V.RowOk.nil) V.TblOk.nil)))))
def an5 : V.An := { io := fun f => [].contains f, ownRes := fun f => [].contains f, spec := V.inTbl t5 }
theorem good5 : V.Good Try.prog an5 := ⟨named, V.spec_of_tbl to5, fun _ _ _ _ h => nomatch h⟩
theorem tno : V.tblNo t5 = true := by kernel_rfl
/-! Fields of unions and structs. -/
def mt : D := V.txt []
def i8 : D := V.txt [105, 56]
def fld (i r : Int) : D := .agg [.int .i64 i, .int .i64 r, i8, mt, .bool false, .int .i64 0, .int .i64 0, mt, .nil, .nil]
def noFld : D := .agg [.int .i64 0, .int .i64 0, mt, mt, .bool false, .int .i64 0, .int .i64 0, mt, .nil, .nil]
/-- four sorts -/
def sort_ (q : Nat) : Int := if q = 0 then 4 else if q = 1 then 5 else if q = 2 then 6 else 8
def req (q c : Nat) : Int := if q % 2 = 0 ∧ c = 2 then 1 else 0
def flds (q : Nat) : D := .lst [fld 1 (req q 1), fld 2 (req q 2), fld 3 (req q 3), fld 4 (req q 4)]
def xk (q : Nat) : D := .agg [.int .i64 (sort_ q), mt, flds q]
def s0 : D := .agg [.nil, .nil, .nil]
def num (c : Nat) : D := .int .i64 c
def elt (j : Nat) : D := .agg [.int .i64 3, .int .i64 j, mt, .nil, .nil]
def idsV (l : List Nat) : D := if l = [] then .nil else .lst (l.map num)
def eltV (n : Nat) : D := if n = 0 then .nil else .lst ((List.range n).map elt)
theorem noNums : ∀ l : List Nat, V.noSyms (l.map num) = true
  | [] => rfl
  | z :: l => by simp only [List.map_cons, V.noSyms, noNums l, Bool.and_true]; rfl
theorem noElts : ∀ l : List Nat, V.noSyms (l.map elt) = true
  | [] => rfl
  | z :: l => by simp only [List.map_cons, V.noSyms, noElts l, Bool.and_true]; rfl
theorem noIds (l : List Nat) : V.noSym (idsV l) = true := by unfold idsV; split; rfl; simp only [V.noSym]; exact noNums l
theorem oneIds (l : List Nat) : (idsV l).one = true := by unfold idsV; split <;> rfl
theorem noEltV (n : Nat) : V.noSym (eltV n) = true := by unfold eltV; split; rfl; simp only [V.noSym]; exact noElts _
theorem oneEltV (n : Nat) : (eltV n).one = true := by unfold eltV; split <;> rfl
theorem inMt (σ : Nat → D) : V.inD σ mt = mt := by simp only [mt, V.txt, V.inD]

/-! Is a number in a row? -/
def rowS (k n : Nat) : D := if n = 0 then .nil else .lst ((List.range n).map fun j => .sym (k + j))
def sI (l : List Nat) : Nat → D := fun n => num (l.getD (n - 30) 0)
theorem plainI (l : List Nat) : V.Plain (sI l) := ⟨fun _ => rfl, fun _ => rfl⟩
theorem inRowS {σ : Nat → D} {l : List Nat} {k : Nat} (hk : ∀ j, j < l.length → σ (k + j) = num (l.getD j 0)) : V.inD σ (rowS k l.length) = idsV l := by
  cases l with
  | nil => rfl
  | cons z r =>
    have h0 : ¬ (z :: r).length = 0 := by simp
    have h1 : ¬ (z :: r) = [] := by simp
    simp only [rowS, if_neg h0, idsV, if_neg h1, V.inD, V.inDs_eq, List.map_map]
    congr 1
    refine List.ext_getElem? fun i => ?_
    by_cases hi : i < (z :: r).length
    · rw [List.getElem?_map, List.getElem?_map, List.getElem?_range hi, List.getElem?_eq_getElem hi]
      simp only [Option.map_some, Function.comp, V.inD, hk i hi]
      congr 2
      simp [List.getD, List.getElem?_eq_getElem hi]
    · rw [List.getElem?_eq_none (by simpa using Nat.le_of_not_lt hi), List.getElem?_eq_none (by simpa using Nat.le_of_not_lt hi)]
def fI (n p : Nat) : List V.Fact := (List.range n).map fun (j : Nat) => .cmp .eql (.int .i64 2) (.sym (30 + j)) (j == p)
def aI (n p : Nat) : V.An := { an5 with orc := V.orcOf (fI n p) }
set_option maxRecDepth 1000000 in
theorem ruI0_9 : V.tells Try.prog (aI 0 9) 400 11 [rowS 30 0, .int .i64 2] [.bool false] = true := by kernel_rfl
set_option maxRecDepth 1000000 in
theorem ruI1_0 : V.tells Try.prog (aI 1 0) 400 11 [rowS 30 1, .int .i64 2] [.bool true] = true := by kernel_rfl
set_option maxRecDepth 1000000 in
theorem ruI1_9 : V.tells Try.prog (aI 1 9) 400 11 [rowS 30 1, .int .i64 2] [.bool false] = true := by kernel_rfl
set_option maxRecDepth 1000000 in
theorem ruI2_0 : V.tells Try.prog (aI 1 0) 400 11 [rowS 30 2, .int .i64 2] [.bool true] = true := by kernel_rfl
set_option maxRecDepth 1000000 in
theorem ruI2_1 : V.tells Try.prog (aI 2 1) 400 11 [rowS 30 2, .int .i64 2] [.bool true] = true := by kernel_rfl
set_option maxRecDepth 1000000 in
theorem ruI2_9 : V.tells Try.prog (aI 2 9) 400 11 [rowS 30 2, .int .i64 2] [.bool false] = true := by kernel_rfl
set_option maxRecDepth 1000000 in
theorem ruI3_0 : V.tells Try.prog (aI 1 0) 400 11 [rowS 30 3, .int .i64 2] [.bool true] = true := by kernel_rfl
set_option maxRecDepth 1000000 in
theorem ruI3_1 : V.tells Try.prog (aI 2 1) 400 11 [rowS 30 3, .int .i64 2] [.bool true] = true := by kernel_rfl
set_option maxRecDepth 1000000 in
theorem ruI3_2 : V.tells Try.prog (aI 3 2) 400 11 [rowS 30 3, .int .i64 2] [.bool true] = true := by kernel_rfl
set_option maxRecDepth 1000000 in
theorem ruI3_9 : V.tells Try.prog (aI 3 9) 400 11 [rowS 30 3, .int .i64 2] [.bool false] = true := by kernel_rfl
set_option maxRecDepth 1000000 in
theorem ruI4_0 : V.tells Try.prog (aI 1 0) 400 11 [rowS 30 4, .int .i64 2] [.bool true] = true := by kernel_rfl
set_option maxRecDepth 1000000 in
theorem ruI4_1 : V.tells Try.prog (aI 2 1) 400 11 [rowS 30 4, .int .i64 2] [.bool true] = true := by kernel_rfl
set_option maxRecDepth 1000000 in
theorem ruI4_2 : V.tells Try.prog (aI 3 2) 400 11 [rowS 30 4, .int .i64 2] [.bool true] = true := by kernel_rfl
set_option maxRecDepth 1000000 in
theorem ruI4_3 : V.tells Try.prog (aI 4 3) 400 11 [rowS 30 4, .int .i64 2] [.bool true] = true := by kernel_rfl
set_option maxRecDepth 1000000 in
theorem ruI4_9 : V.tells Try.prog (aI 4 9) 400 11 [rowS 30 4, .int .i64 2] [.bool false] = true := by kernel_rfl
set_option maxRecDepth 1000000 in
theorem ruI5_0 : V.tells Try.prog (aI 1 0) 400 11 [rowS 30 5, .int .i64 2] [.bool true] = true := by kernel_rfl
set_option maxRecDepth 1000000 in
theorem ruI5_1 : V.tells Try.prog (aI 2 1) 400 11 [rowS 30 5, .int .i64 2] [.bool true] = true := by kernel_rfl
set_option maxRecDepth 1000000 in
theorem ruI5_2 : V.tells Try.prog (aI 3 2) 400 11 [rowS 30 5, .int .i64 2] [.bool true] = true := by kernel_rfl
set_option maxRecDepth 1000000 in
theorem ruI5_3 : V.tells Try.prog (aI 4 3) 400 11 [rowS 30 5, .int .i64 2] [.bool true] = true := by kernel_rfl
set_option maxRecDepth 1000000 in
theorem ruI5_4 : V.tells Try.prog (aI 5 4) 400 11 [rowS 30 5, .int .i64 2] [.bool true] = true := by kernel_rfl
set_option maxRecDepth 1000000 in
theorem ruI5_9 : V.tells Try.prog (aI 5 9) 400 11 [rowS 30 5, .int .i64 2] [.bool false] = true := by kernel_rfl
theorem fIok (l : List Nat) (n p : Nat) (h : ∀ j, j < n → (l.getD j 0 = 2 ↔ j = p)) : ∀ f ∈ fI n p, @V.Fact.ok (V.sigOf (sI l)) Try.prog f := by
  letI : V.Sig := V.sigOf (sI l)
  intro f hf
  simp only [fI, List.mem_map, List.mem_range] at hf
  obtain ⟨j, hj, rfl⟩ := hf
  have h1 := h j hj
  have hs : V.plain (.sym (30 + j)) = num (l.getD j 0) := by
    show num (l.getD (30 + j - 30) 0) = _
    rw [Nat.add_sub_cancel_left]
  by_cases hp : j = p
  · have : (j == p) = true := by simpa using hp
    rw [this]
    exact V.okc (k := .i64) (m := 2) (n := l.getD j 0) rfl hs (V.c_eqlT (by have := h1.2 hp; omega))
  · have : (j == p) = false := by simpa using hp
    rw [this]
    exact V.okc (k := .i64) (m := 2) (n := l.getD j 0) rfl hs (V.c_eqlF (by have : ¬ l.getD j 0 = 2 := fun h => hp (h1.1 h); omega))
theorem inTells (l : List Nat) (hn : l.length ≤ 5) {m p : Nat} {b : Bool} (hr : V.tells Try.prog (aI m p) 400 11 [rowS 30 l.length, .int .i64 2] [.bool b] = true) (h : ∀ j, j < m → (l.getD j 0 = 2 ↔ j = p)) : V.Holds Try.prog 11 [idsV l, .int .i64 2] [.bool b] := by
  have hg : @V.Good (V.sigOf (sI l)) Try.prog (aI m p) := @V.Good.mk (V.sigOf (sI l)) _ _ named (@V.spec_of_tbl (V.sigOf (sI l)) _ _ (V.TblOk.any tno to5)) (@V.orc_of (V.sigOf (sI l)) _ _ (fIok l m p h) _ rfl)
  have r := V.Holds.ins (plainI l) (@V.holds_of_tells (V.sigOf (sI l)) _ _ hg regs follows _ _ _ _ hr)
  have e : V.inDs (sI l) [rowS 30 l.length, .int .i64 2] = [idsV l, .int .i64 2] := by
    simp only [V.inDs, V.inD]
    rw [inRowS fun j _ => by show num (l.getD (30 + j - 30) 0) = _; rw [Nat.add_sub_cancel_left]]
  rw [e] at r
  exact r
theorem holds2 (l : List Nat) (hn : l.length ≤ 5) : V.Holds Try.prog 11 [idsV l, .int .i64 2] [.bool (decide (2 ∈ l))] := by
  match l, hn with
  | [], hn =>
    have e : decide (2 ∈ ([] : List Nat)) = false := by simp
    rw [e]
    exact inTells _ hn ruI0_9 (fun j hj => absurd hj (by simp))
    -- none
  | [a], hn =>
    by_cases h0 : a = 2
    · have e : decide (2 ∈ ([a] : List Nat)) = true := by simp [h0]
      rw [e]
      exact inTells _ hn ruI1_0 (fun j hj => by match j, hj with | 0, _ => simp [List.getD, h0])
    have e : decide (2 ∈ ([a] : List Nat)) = false := by simp [Ne.symm h0]
    rw [e]
    exact inTells _ hn ruI1_9 (fun j hj => by match j, hj with | 0, _ => simp [List.getD, h0])
  | [a, b], hn =>
    by_cases h0 : a = 2
    · have e : decide (2 ∈ ([a, b] : List Nat)) = true := by simp [h0]
      rw [e]
      exact inTells _ hn ruI2_0 (fun j hj => by match j, hj with | 0, _ => simp [List.getD, h0])
    by_cases h1 : b = 2
    · have e : decide (2 ∈ ([a, b] : List Nat)) = true := by simp [h0, h1]
      rw [e]
      exact inTells _ hn ruI2_1 (fun j hj => by match j, hj with | 0, _ => simp [List.getD, h0, h1] | 1, _ => simp [List.getD, h0, h1])
    have e : decide (2 ∈ ([a, b] : List Nat)) = false := by simp [Ne.symm h0, Ne.symm h1]
    rw [e]
    exact inTells _ hn ruI2_9 (fun j hj => by match j, hj with | 0, _ => simp [List.getD, h0, h1] | 1, _ => simp [List.getD, h0, h1])
  | [a, b, c], hn =>
    by_cases h0 : a = 2
    · have e : decide (2 ∈ ([a, b, c] : List Nat)) = true := by simp [h0]
      rw [e]
      exact inTells _ hn ruI3_0 (fun j hj => by match j, hj with | 0, _ => simp [List.getD, h0])
    by_cases h1 : b = 2
    · have e : decide (2 ∈ ([a, b, c] : List Nat)) = true := by simp [h0, h1]
      rw [e]
      exact inTells _ hn ruI3_1 (fun j hj => by match j, hj with | 0, _ => simp [List.getD, h0, h1] | 1, _ => simp [List.getD, h0, h1])
    by_cases h2 : c = 2
    · have e : decide (2 ∈ ([a, b, c] : List Nat)) = true := by simp [h0, h1, h2]
      rw [e]
      exact inTells _ hn ruI3_2 (fun j hj => by match j, hj with | 0, _ => simp [List.getD, h0, h1, h2] | 1, _ => simp [List.getD, h0, h1, h2] | 2, _ => simp [List.getD, h0, h1, h2])
    have e : decide (2 ∈ ([a, b, c] : List Nat)) = false := by simp [Ne.symm h0, Ne.symm h1, Ne.symm h2]
    rw [e]
    exact inTells _ hn ruI3_9 (fun j hj => by match j, hj with | 0, _ => simp [List.getD, h0, h1, h2] | 1, _ => simp [List.getD, h0, h1, h2] | 2, _ => simp [List.getD, h0, h1, h2])
  | [a, b, c, d], hn =>
    by_cases h0 : a = 2
    · have e : decide (2 ∈ ([a, b, c, d] : List Nat)) = true := by simp [h0]
      rw [e]
      exact inTells _ hn ruI4_0 (fun j hj => by match j, hj with | 0, _ => simp [List.getD, h0])
    by_cases h1 : b = 2
    · have e : decide (2 ∈ ([a, b, c, d] : List Nat)) = true := by simp [h0, h1]
      rw [e]
      exact inTells _ hn ruI4_1 (fun j hj => by match j, hj with | 0, _ => simp [List.getD, h0, h1] | 1, _ => simp [List.getD, h0, h1])
    by_cases h2 : c = 2
    · have e : decide (2 ∈ ([a, b, c, d] : List Nat)) = true := by simp [h0, h1, h2]
      rw [e]
      exact inTells _ hn ruI4_2 (fun j hj => by match j, hj with | 0, _ => simp [List.getD, h0, h1, h2] | 1, _ => simp [List.getD, h0, h1, h2] | 2, _ => simp [List.getD, h0, h1, h2])
    by_cases h3 : d = 2
    · have e : decide (2 ∈ ([a, b, c, d] : List Nat)) = true := by simp [h0, h1, h2, h3]
      rw [e]
      exact inTells _ hn ruI4_3 (fun j hj => by match j, hj with | 0, _ => simp [List.getD, h0, h1, h2, h3] | 1, _ => simp [List.getD, h0, h1, h2, h3] | 2, _ => simp [List.getD, h0, h1, h2, h3] | 3, _ => simp [List.getD, h0, h1, h2, h3])
    have e : decide (2 ∈ ([a, b, c, d] : List Nat)) = false := by simp [Ne.symm h0, Ne.symm h1, Ne.symm h2, Ne.symm h3]
    rw [e]
    exact inTells _ hn ruI4_9 (fun j hj => by match j, hj with | 0, _ => simp [List.getD, h0, h1, h2, h3] | 1, _ => simp [List.getD, h0, h1, h2, h3] | 2, _ => simp [List.getD, h0, h1, h2, h3] | 3, _ => simp [List.getD, h0, h1, h2, h3])
  | [a, b, c, d, e], hn =>
    by_cases h0 : a = 2
    · have e : decide (2 ∈ ([a, b, c, d, e] : List Nat)) = true := by simp [h0]
      rw [e]
      exact inTells _ hn ruI5_0 (fun j hj => by match j, hj with | 0, _ => simp [List.getD, h0])
    by_cases h1 : b = 2
    · have e : decide (2 ∈ ([a, b, c, d, e] : List Nat)) = true := by simp [h0, h1]
      rw [e]
      exact inTells _ hn ruI5_1 (fun j hj => by match j, hj with | 0, _ => simp [List.getD, h0, h1] | 1, _ => simp [List.getD, h0, h1])
    by_cases h2 : c = 2
    · have e : decide (2 ∈ ([a, b, c, d, e] : List Nat)) = true := by simp [h0, h1, h2]
      rw [e]
      exact inTells _ hn ruI5_2 (fun j hj => by match j, hj with | 0, _ => simp [List.getD, h0, h1, h2] | 1, _ => simp [List.getD, h0, h1, h2] | 2, _ => simp [List.getD, h0, h1, h2])
    by_cases h3 : d = 2
    · have e : decide (2 ∈ ([a, b, c, d, e] : List Nat)) = true := by simp [h0, h1, h2, h3]
      rw [e]
      exact inTells _ hn ruI5_3 (fun j hj => by match j, hj with | 0, _ => simp [List.getD, h0, h1, h2, h3] | 1, _ => simp [List.getD, h0, h1, h2, h3] | 2, _ => simp [List.getD, h0, h1, h2, h3] | 3, _ => simp [List.getD, h0, h1, h2, h3])
    by_cases h4 : e = 2
    · have e : decide (2 ∈ ([a, b, c, d, e] : List Nat)) = true := by simp [h0, h1, h2, h3, h4]
      rw [e]
      exact inTells _ hn ruI5_4 (fun j hj => by match j, hj with | 0, _ => simp [List.getD, h0, h1, h2, h3, h4] | 1, _ => simp [List.getD, h0, h1, h2, h3, h4] | 2, _ => simp [List.getD, h0, h1, h2, h3, h4] | 3, _ => simp [List.getD, h0, h1, h2, h3, h4] | 4, _ => simp [List.getD, h0, h1, h2, h3, h4])
    have e : decide (2 ∈ ([a, b, c, d, e] : List Nat)) = false := by simp [Ne.symm h0, Ne.symm h1, Ne.symm h2, Ne.symm h3, Ne.symm h4]
    rw [e]
    exact inTells _ hn ruI5_9 (fun j hj => by match j, hj with | 0, _ => simp [List.getD, h0, h1, h2, h3, h4] | 1, _ => simp [List.getD, h0, h1, h2, h3, h4] | 2, _ => simp [List.getD, h0, h1, h2, h3, h4] | 3, _ => simp [List.getD, h0, h1, h2, h3, h4] | 4, _ => simp [List.getD, h0, h1, h2, h3, h4])
end Go.Proofs.Ytchmhmhjajocnaa.Say
