/- proj.As of structs whose numbers rise: the fields' loops. Mine. -/
import Derived.Test.YtjofhegodknmaaaSayProjNorm
set_option linter.unusedVariables false
set_option linter.unusedSimpArgs false
namespace Go.Proofs.Ytjofhegodknmaaa.Say
open Go Go.RowKit
open V (D)

noncomputable def pA : Code := match Try.f28.body with
  | some c => c
  | none => .skip
noncomputable def p0 : Code := cf pA
noncomputable def p1 : Code := cf (cj 1 pA)
noncomputable def p2 : Code := cf (cj 2 pA)
noncomputable def p3 : Code := cf (cj 3 pA)
noncomputable def p4 : Code := cf (cf (cj 4 pA))
noncomputable def pLp : Code := cb (cb (cs (cf (cj 4 pA))))
noncomputable def p12 : Code := cf (cf (cj 5 pA))
noncomputable def pLq : Code := cb (cb (cs (cf (cj 5 pA))))
noncomputable def pR : Code := cj 6 pA
theorem bodyP : Try.f28.body = some pA := by kernel_rfl
theorem shapeP : pA = .seq p0 (.seq p1 (.seq p2 (.seq p3 (.seq (.seq p4 (.block 0 (.loop pLp))) (.seq (.seq p12 (.block 2 (.loop pLq))) pR))))) := by kernel_rfl
theorem regsP : V.Regs p0 ∧ V.Regs p1 ∧ V.Regs p2 ∧ V.Regs p3 ∧ (V.Regs p4 ∧ V.Regs pLp) ∧ (V.Regs p12 ∧ V.Regs pLq) ∧ V.Regs pR := by
  have h := regs 28 Try.f28 pA Try.func28 bodyP
  rw [shapeP] at h
  exact h
def mapO (e : Int) : V.Obj := ⟨67, 4, true, 0, false, [.dat .nil, .dat .nil, .dat .nil, .dat (.int .i64 e)]⟩
def valO (cs : List V.U) : V.Obj := ⟨28, 5, true, 0, false, cs⟩
def lC (w : Nat) : V.U :=
  match w with
  | 0 => .dat .nil
  | w + 1 => .own 1272 w 0 (w + 1)
def iC (w : Nat) : V.U :=
  match w with
  | 0 => .dat .nil
  | w + 1 => .own 1168 w 0 (w + 1)
def rowsP (css : List (List D)) (n : D) : V.Store :=
  match css.length with
  | 0 => []
  | w + 1 => [(1168, V.rowOf 3 1 false w css), (1272, V.rowOf 28 5 true w (css.map fun _ => [.int .i64 3, n, mt, .nil, .nil]))]
def nxP (css : List (List D)) : Nat := match css.length with
  | 0 => 1000
  | _ + 1 => 2000
def baseP (kind fs ids L : D) (w : Nat) : V.Store := [(56, mapO 0), (112, ⟨31, 3, true, 0, false, [.dat kind, .dat mt, .dat fs]⟩), (120, valO [.dat (.int .i64 12), .dat (.int .i64 0), .dat mt, .dat L, .dat ids]), (128, valO [.dat (.int .i64 0), .dat (.int .i64 0), .dat mt, .dat .nil, .dat .nil]), (248, valO [.dat (.int .i64 12), .dat (.int .i64 0), .dat mt, lC w, iC w])]
def tP0 (out : Bool) (ids p i : D) : List V.U := [.ptr 56 0 0, .junk, .junk, .junk, .ptr 112 0 0, .ptr 120 0 0, .ptr 128 0 0, .ptr 248 0 0, .dat (.bool out)] ++ List.replicate 21 .junk ++ [.dat ids, .dat p, .dat i] ++ List.replicate 85 .junk
/-- in the first loop -/
def PS (kind fs ids L n p i : D) (out : Bool) (css : List (List D)) : V.St := ⟨tP0 out ids p i, baseP kind fs ids L css.length ++ rowsP css n, nxP css⟩
/-- in the second one -/
def tQ0 (out : Bool) (fs r i : D) : List V.U := [.ptr 56 0 0, .junk, .junk, .junk, .ptr 112 0 0, .ptr 120 0 0, .ptr 128 0 0, .ptr 248 0 0, .dat (.bool out)] ++ List.replicate 58 .junk ++ [.dat fs, .dat r, .dat i] ++ List.replicate 48 .junk
def QS (kind fs ids L n r i : D) (out : Bool) (css : List (List D)) : V.St := ⟨tQ0 out fs r i, baseP kind fs ids L css.length ++ rowsP css n, nxP css⟩
def keepP : List Bool := [true, false, false, false, true, true, true, true, true] ++ List.replicate 21 false ++ [true, true, true]
def keepQ : List Bool := [true, false, false, false, true, true, true, true, true] ++ List.replicate 58 false ++ [true, true, true]
def idsP (w : Nat) : List Nat := [56, 112, 120, 128, 248] ++ (match w with
  | 0 => []
  | _ + 1 => [1168, 1272])
def nmC (w : Nat) : List (List D) := (List.range w).map fun k => [.sym k]
def bools : List Bool := [true, false]
def idx12 : List Nat := [0, 1, 2, 3, 4, 5, 6, 7, 8, 9, 10, 11]
def PN (w : Nat) (i : Nat) (out : Bool) (more : List (List D)) : V.St := PS (.sym 61) (.sym 50) (.sym 51) (.sym 52) (.sym 40) (.sym 43) (.sym i) out (nmC w ++ more)
def tP (m : Bool) : V.Tbl := [(57, [([xD (.sym 61) (.sym 50), .sym 60], if m then [fd (.sym 60), .bool true] else [fd0, .bool false])]), (74, [([i8t], [.int .i64 3, mt, mt, mt, .int .i64 0])]), (33, [([sch, i8t], [.int .i64 3])])]
def fP : List V.Fact := [.cmp .lss (.sym 41) (.sym 43) true, .ari .add (.sym 41) (.int .i64 1) (.sym 42)]
def gP : List V.Gact := [.ix 26 (.sym 51) (.sym 41) [.sym 60], .ix 25 (.sym 52) (.sym 41) [.int .i64 3, .sym 40, mt, .nil, .nil]]
def aP (m : Bool) : V.An := { anE with spec := V.inTbl (tP m), orc := V.orcOr (V.orcOf fP) (V.orcG gP) }
set_option maxRecDepth 1000000 in
theorem runPm : idx12.all (fun w => bools.all fun o => V.endsAs (V.upto Try.prog (aP true) 400 pLp (PN w 41 o []) (idsP (w + 1)) keepP 2000) .normal (PN w 42 o [[.sym 60]])) = true := by kernel_rfl
set_option maxRecDepth 1000000 in
theorem runPn : upto12.all (fun w => bools.all fun o => V.endsAs (V.upto Try.prog (aP false) 400 pLp (PN w 41 o []) (idsP w) keepP (nxP (nmC w))) .normal (PN w 42 true [])) = true := by kernel_rfl
def aPo : V.An := { anE with orc := V.orcOf [.cmp .lss (.sym 41) (.sym 43) false] }
set_option maxRecDepth 1000000 in
theorem runPo : upto12.all (fun w => bools.all fun o => V.endsAs (V.upto Try.prog aPo 400 pLp (PN w 41 o []) (idsP w) keepP (nxP (nmC w))) (.exit 0) (PN w 41 o [])) = true := by kernel_rfl
end Go.Proofs.Ytjofhegodknmaaa.Say
