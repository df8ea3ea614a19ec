/- ValueUnions: the runs of the law. -/
import Derived.Test.YtchmhmhjajocnaaSayUnionFields
set_option linter.unusedVariables false
set_option linter.unusedSimpArgs false
namespace Go.Proofs.Ytchmhmhjajocnaa.Say
open Go Go.RowKit
open V (D)
instance : V.Sig := V.sig0
noncomputable def cU : Code := match Try.f3.body with
  | some c => c
  | none => .skip
noncomputable def u0 : Code := cf cU
noncomputable def u1 : Code := cf (cs cU)
noncomputable def u2 : Code := cf (cs (cs cU))
noncomputable def u3 : Code := cf (cs (cs (cs cU)))
noncomputable def u4 : Code := cf (cs (cs (cs (cs cU))))
noncomputable def u5 : Code := cf (cs (cs (cs (cs (cs cU)))))
noncomputable def u6 : Code := cf (cs (cs (cs (cs (cs (cs cU))))))
noncomputable def u7 : Code := cf (cf (cs (cs (cs (cs (cs (cs (cs cU))))))))
noncomputable def bU : Code := cb (cb (cs (cf (cs (cs (cs (cs (cs (cs (cs cU))))))))))
noncomputable def u9 : Code := cs (cs (cs (cs (cs (cs (cs (cs cU)))))))
theorem bodyU : Try.f3.body = some cU := by kernel_rfl
theorem shapeU : cU = .seq u0 (.seq u1 (.seq u2 (.seq u3 (.seq u4 (.seq u5 (.seq u6 (.seq (.seq u7 (.block 2 (.loop bU))) u9))))))) := by kernel_rfl
theorem regsU : V.Regs u0 ∧ V.Regs u1 ∧ V.Regs u2 ∧ V.Regs u3 ∧ V.Regs u4 ∧ V.Regs u5 ∧ V.Regs u6 ∧ (V.Regs u7 ∧ V.Regs bU) ∧ V.Regs u9 := by
  have h := regs 3 Try.f3 cU Try.func3 bodyU
  rw [shapeU] at h
  exact h
def oW (l ids : V.U) : V.Obj := ⟨30, 5, true, 0, false, [.dat (.int .i64 12), .dat (.int .i64 0), .dat mt, l, ids]⟩
def eltCells (i : Nat) : List D := (List.range i).flatMap fun j => [.int .i64 3, num j, mt, .nil, .nil]
def LS (a k : D) (q : Nat) (r t : Bool) (i : Nat) (ws : List D) : V.St :=
  ⟨[.dat a, .dat k, .junk, .junk, .junk, .ptr 96 0 0, .junk, .junk, .ptr 120 0 0, .dat (.bool r), .dat (.bool t), .dat (num i)] ++ List.replicate 131 .junk,
   if i = 0 then [(96, oX q), (120, oW (.dat .nil) (.dat .nil))] else [(96, oX q), (120, oW (.own 568 (i - 1) 0 i) (.own 520 (i - 1) 0 i)), (520, ⟨3, 1, false, i - 1, false, ws.map .dat⟩), (568, ⟨30, 5, true, i - 1, false, (eltCells i).map .dat⟩)],
   if i = 0 then 160 else 576⟩
def PA (a k : D) (q : Nat) : V.St := ⟨[.dat a, .dat k, .junk, .junk, .junk, .ptr 96 0 0] ++ List.replicate 137 .junk, [(96, oX q)], 112⟩
def idsL (i : Nat) : List Nat := if i = 0 then [96, 120] else [96, 120, 520, 568]
def kU : List Bool := [true, true, false, false, false, true, false, false, true, true, true, true]
def kA : List Bool := [true, true, false, false, false, true]
def syms (i : Nat) : List D := (List.range i).map fun j => .sym (30 + j)
/-- 1: the bytes; 2: the sort's byte; 4: how many; 30 ..: the numbers; 50 .., 70 ..: on the way to them -/
def hU (q : Nat) (r t : Bool) (i : Nat) : V.St := LS (.sym 1) (.sym 2) q r t i (syms i)
def fRise (i R : Nat) : List V.Fact :=
  match R with
  | 0 => []
  | 1 => [.cmp .geq (.sym (30 + i)) (.int .i64 1) false]
  | 2 => [.cmp .geq (.sym (30 + i)) (.int .i64 1) true, .cmp .leq (.sym (30 + i)) (.int .i64 4) false]
  | 3 => [.cmp .geq (.sym (30 + i)) (.int .i64 1) true, .cmp .leq (.sym (30 + i)) (.int .i64 4) true, .cmp .gtr (.sym (30 + i)) (.sym (29 + i)) false]
  | _ => .cmp .geq (.sym (30 + i)) (.int .i64 1) true :: .cmp .leq (.sym (30 + i)) (.int .i64 4) true :: (if i = 0 then [] else [.cmp .gtr (.sym (30 + i)) (.sym (29 + i)) true])
def fTwo (i T : Nat) : List V.Fact :=
  match T with
  | 0 => []
  | 1 => [.cmp .eql (.sym (30 + i)) (.int .i64 2) true]
  | _ => [.cmp .eql (.sym (30 + i)) (.int .i64 2) false]
def fU (i R T : Nat) : List V.Fact := .cmp .lss (.int .i64 i) (.sym 4) true :: .ari .rem (.sym (70 + i)) (.int .u8 6) (.sym (50 + i)) :: .conv 5 3 (.sym (50 + i)) (.sym (30 + i)) :: (fRise i R ++ fTwo i T)
def gLn : List V.Gact := [.len 22 (.sym 1) (.sym 4)]
def gU (i : Nat) : List V.Gact := .ix 22 (.sym 1) (.int .i64 i) [.sym (70 + i)] :: gLn
def aU (i R T : Nat) : V.An := { an5 with orc := V.orcOr (V.orcOf (fU i R T)) (V.orcG (gU i)) }
set_option maxRecDepth 1000000 in
theorem ruU000 (q : Nat) : V.upto Try.prog (aU 0 0 0) 400 bU (hU q false true 0) (idsL 1) kU 576 = some (.normal, hU q false true 1) := by kernel_rfl
set_option maxRecDepth 1000000 in
theorem ruU001 (q : Nat) : V.upto Try.prog (aU 0 0 1) 400 bU (hU q false false 0) (idsL 1) kU 576 = some (.normal, hU q false true 1) := by kernel_rfl
set_option maxRecDepth 1000000 in
theorem ruU002 (q : Nat) : V.upto Try.prog (aU 0 0 2) 400 bU (hU q false false 0) (idsL 1) kU 576 = some (.normal, hU q false false 1) := by kernel_rfl
set_option maxRecDepth 1000000 in
theorem ruU010 (q : Nat) : V.upto Try.prog (aU 0 1 0) 400 bU (hU q true true 0) (idsL 1) kU 576 = some (.normal, hU q false true 1) := by kernel_rfl
set_option maxRecDepth 1000000 in
theorem ruU011 (q : Nat) : V.upto Try.prog (aU 0 1 1) 400 bU (hU q true false 0) (idsL 1) kU 576 = some (.normal, hU q false true 1) := by kernel_rfl
set_option maxRecDepth 1000000 in
theorem ruU012 (q : Nat) : V.upto Try.prog (aU 0 1 2) 400 bU (hU q true false 0) (idsL 1) kU 576 = some (.normal, hU q false false 1) := by kernel_rfl
set_option maxRecDepth 1000000 in
theorem ruU020 (q : Nat) : V.upto Try.prog (aU 0 2 0) 400 bU (hU q true true 0) (idsL 1) kU 576 = some (.normal, hU q false true 1) := by kernel_rfl
set_option maxRecDepth 1000000 in
theorem ruU021 (q : Nat) : V.upto Try.prog (aU 0 2 1) 400 bU (hU q true false 0) (idsL 1) kU 576 = some (.normal, hU q false true 1) := by kernel_rfl
set_option maxRecDepth 1000000 in
theorem ruU022 (q : Nat) : V.upto Try.prog (aU 0 2 2) 400 bU (hU q true false 0) (idsL 1) kU 576 = some (.normal, hU q false false 1) := by kernel_rfl
set_option maxRecDepth 1000000 in
theorem ruU040 (q : Nat) : V.upto Try.prog (aU 0 4 0) 400 bU (hU q true true 0) (idsL 1) kU 576 = some (.normal, hU q true true 1) := by kernel_rfl
set_option maxRecDepth 1000000 in
theorem ruU041 (q : Nat) : V.upto Try.prog (aU 0 4 1) 400 bU (hU q true false 0) (idsL 1) kU 576 = some (.normal, hU q true true 1) := by kernel_rfl
set_option maxRecDepth 1000000 in
theorem ruU042 (q : Nat) : V.upto Try.prog (aU 0 4 2) 400 bU (hU q true false 0) (idsL 1) kU 576 = some (.normal, hU q true false 1) := by kernel_rfl
set_option maxRecDepth 1000000 in
theorem ruU100 (q : Nat) : V.upto Try.prog (aU 1 0 0) 400 bU (hU q false true 1) (idsL 2) kU 576 = some (.normal, hU q false true 2) := by kernel_rfl
set_option maxRecDepth 1000000 in
theorem ruU101 (q : Nat) : V.upto Try.prog (aU 1 0 1) 400 bU (hU q false false 1) (idsL 2) kU 576 = some (.normal, hU q false true 2) := by kernel_rfl
set_option maxRecDepth 1000000 in
theorem ruU102 (q : Nat) : V.upto Try.prog (aU 1 0 2) 400 bU (hU q false false 1) (idsL 2) kU 576 = some (.normal, hU q false false 2) := by kernel_rfl
set_option maxRecDepth 1000000 in
theorem ruU110 (q : Nat) : V.upto Try.prog (aU 1 1 0) 400 bU (hU q true true 1) (idsL 2) kU 576 = some (.normal, hU q false true 2) := by kernel_rfl
set_option maxRecDepth 1000000 in
theorem ruU111 (q : Nat) : V.upto Try.prog (aU 1 1 1) 400 bU (hU q true false 1) (idsL 2) kU 576 = some (.normal, hU q false true 2) := by kernel_rfl
set_option maxRecDepth 1000000 in
theorem ruU112 (q : Nat) : V.upto Try.prog (aU 1 1 2) 400 bU (hU q true false 1) (idsL 2) kU 576 = some (.normal, hU q false false 2) := by kernel_rfl
set_option maxRecDepth 1000000 in
theorem ruU120 (q : Nat) : V.upto Try.prog (aU 1 2 0) 400 bU (hU q true true 1) (idsL 2) kU 576 = some (.normal, hU q false true 2) := by kernel_rfl
set_option maxRecDepth 1000000 in
theorem ruU121 (q : Nat) : V.upto Try.prog (aU 1 2 1) 400 bU (hU q true false 1) (idsL 2) kU 576 = some (.normal, hU q false true 2) := by kernel_rfl
set_option maxRecDepth 1000000 in
theorem ruU122 (q : Nat) : V.upto Try.prog (aU 1 2 2) 400 bU (hU q true false 1) (idsL 2) kU 576 = some (.normal, hU q false false 2) := by kernel_rfl
set_option maxRecDepth 1000000 in
theorem ruU130 (q : Nat) : V.upto Try.prog (aU 1 3 0) 400 bU (hU q true true 1) (idsL 2) kU 576 = some (.normal, hU q false true 2) := by kernel_rfl
set_option maxRecDepth 1000000 in
theorem ruU131 (q : Nat) : V.upto Try.prog (aU 1 3 1) 400 bU (hU q true false 1) (idsL 2) kU 576 = some (.normal, hU q false true 2) := by kernel_rfl
set_option maxRecDepth 1000000 in
theorem ruU132 (q : Nat) : V.upto Try.prog (aU 1 3 2) 400 bU (hU q true false 1) (idsL 2) kU 576 = some (.normal, hU q false false 2) := by kernel_rfl
set_option maxRecDepth 1000000 in
theorem ruU140 (q : Nat) : V.upto Try.prog (aU 1 4 0) 400 bU (hU q true true 1) (idsL 2) kU 576 = some (.normal, hU q true true 2) := by kernel_rfl
set_option maxRecDepth 1000000 in
theorem ruU141 (q : Nat) : V.upto Try.prog (aU 1 4 1) 400 bU (hU q true false 1) (idsL 2) kU 576 = some (.normal, hU q true true 2) := by kernel_rfl
set_option maxRecDepth 1000000 in
theorem ruU142 (q : Nat) : V.upto Try.prog (aU 1 4 2) 400 bU (hU q true false 1) (idsL 2) kU 576 = some (.normal, hU q true false 2) := by kernel_rfl
set_option maxRecDepth 1000000 in
theorem ruU200 (q : Nat) : V.upto Try.prog (aU 2 0 0) 400 bU (hU q false true 2) (idsL 3) kU 576 = some (.normal, hU q false true 3) := by kernel_rfl
set_option maxRecDepth 1000000 in
theorem ruU201 (q : Nat) : V.upto Try.prog (aU 2 0 1) 400 bU (hU q false false 2) (idsL 3) kU 576 = some (.normal, hU q false true 3) := by kernel_rfl
set_option maxRecDepth 1000000 in
theorem ruU202 (q : Nat) : V.upto Try.prog (aU 2 0 2) 400 bU (hU q false false 2) (idsL 3) kU 576 = some (.normal, hU q false false 3) := by kernel_rfl
set_option maxRecDepth 1000000 in
theorem ruU210 (q : Nat) : V.upto Try.prog (aU 2 1 0) 400 bU (hU q true true 2) (idsL 3) kU 576 = some (.normal, hU q false true 3) := by kernel_rfl
set_option maxRecDepth 1000000 in
theorem ruU211 (q : Nat) : V.upto Try.prog (aU 2 1 1) 400 bU (hU q true false 2) (idsL 3) kU 576 = some (.normal, hU q false true 3) := by kernel_rfl
set_option maxRecDepth 1000000 in
theorem ruU212 (q : Nat) : V.upto Try.prog (aU 2 1 2) 400 bU (hU q true false 2) (idsL 3) kU 576 = some (.normal, hU q false false 3) := by kernel_rfl
set_option maxRecDepth 1000000 in
theorem ruU220 (q : Nat) : V.upto Try.prog (aU 2 2 0) 400 bU (hU q true true 2) (idsL 3) kU 576 = some (.normal, hU q false true 3) := by kernel_rfl
set_option maxRecDepth 1000000 in
theorem ruU221 (q : Nat) : V.upto Try.prog (aU 2 2 1) 400 bU (hU q true false 2) (idsL 3) kU 576 = some (.normal, hU q false true 3) := by kernel_rfl
set_option maxRecDepth 1000000 in
theorem ruU222 (q : Nat) : V.upto Try.prog (aU 2 2 2) 400 bU (hU q true false 2) (idsL 3) kU 576 = some (.normal, hU q false false 3) := by kernel_rfl
set_option maxRecDepth 1000000 in
theorem ruU230 (q : Nat) : V.upto Try.prog (aU 2 3 0) 400 bU (hU q true true 2) (idsL 3) kU 576 = some (.normal, hU q false true 3) := by kernel_rfl
set_option maxRecDepth 1000000 in
theorem ruU231 (q : Nat) : V.upto Try.prog (aU 2 3 1) 400 bU (hU q true false 2) (idsL 3) kU 576 = some (.normal, hU q false true 3) := by kernel_rfl
set_option maxRecDepth 1000000 in
theorem ruU232 (q : Nat) : V.upto Try.prog (aU 2 3 2) 400 bU (hU q true false 2) (idsL 3) kU 576 = some (.normal, hU q false false 3) := by kernel_rfl
set_option maxRecDepth 1000000 in
theorem ruU240 (q : Nat) : V.upto Try.prog (aU 2 4 0) 400 bU (hU q true true 2) (idsL 3) kU 576 = some (.normal, hU q true true 3) := by kernel_rfl
set_option maxRecDepth 1000000 in
theorem ruU241 (q : Nat) : V.upto Try.prog (aU 2 4 1) 400 bU (hU q true false 2) (idsL 3) kU 576 = some (.normal, hU q true true 3) := by kernel_rfl
set_option maxRecDepth 1000000 in
theorem ruU242 (q : Nat) : V.upto Try.prog (aU 2 4 2) 400 bU (hU q true false 2) (idsL 3) kU 576 = some (.normal, hU q true false 3) := by kernel_rfl
set_option maxRecDepth 1000000 in
theorem ruU300 (q : Nat) : V.upto Try.prog (aU 3 0 0) 400 bU (hU q false true 3) (idsL 4) kU 576 = some (.normal, hU q false true 4) := by kernel_rfl
set_option maxRecDepth 1000000 in
theorem ruU301 (q : Nat) : V.upto Try.prog (aU 3 0 1) 400 bU (hU q false false 3) (idsL 4) kU 576 = some (.normal, hU q false true 4) := by kernel_rfl
set_option maxRecDepth 1000000 in
theorem ruU302 (q : Nat) : V.upto Try.prog (aU 3 0 2) 400 bU (hU q false false 3) (idsL 4) kU 576 = some (.normal, hU q false false 4) := by kernel_rfl
set_option maxRecDepth 1000000 in
theorem ruU310 (q : Nat) : V.upto Try.prog (aU 3 1 0) 400 bU (hU q true true 3) (idsL 4) kU 576 = some (.normal, hU q false true 4) := by kernel_rfl
set_option maxRecDepth 1000000 in
theorem ruU311 (q : Nat) : V.upto Try.prog (aU 3 1 1) 400 bU (hU q true false 3) (idsL 4) kU 576 = some (.normal, hU q false true 4) := by kernel_rfl
set_option maxRecDepth 1000000 in
theorem ruU312 (q : Nat) : V.upto Try.prog (aU 3 1 2) 400 bU (hU q true false 3) (idsL 4) kU 576 = some (.normal, hU q false false 4) := by kernel_rfl
set_option maxRecDepth 1000000 in
theorem ruU320 (q : Nat) : V.upto Try.prog (aU 3 2 0) 400 bU (hU q true true 3) (idsL 4) kU 576 = some (.normal, hU q false true 4) := by kernel_rfl
set_option maxRecDepth 1000000 in
theorem ruU321 (q : Nat) : V.upto Try.prog (aU 3 2 1) 400 bU (hU q true false 3) (idsL 4) kU 576 = some (.normal, hU q false true 4) := by kernel_rfl
set_option maxRecDepth 1000000 in
theorem ruU322 (q : Nat) : V.upto Try.prog (aU 3 2 2) 400 bU (hU q true false 3) (idsL 4) kU 576 = some (.normal, hU q false false 4) := by kernel_rfl
set_option maxRecDepth 1000000 in
theorem ruU330 (q : Nat) : V.upto Try.prog (aU 3 3 0) 400 bU (hU q true true 3) (idsL 4) kU 576 = some (.normal, hU q false true 4) := by kernel_rfl
set_option maxRecDepth 1000000 in
theorem ruU331 (q : Nat) : V.upto Try.prog (aU 3 3 1) 400 bU (hU q true false 3) (idsL 4) kU 576 = some (.normal, hU q false true 4) := by kernel_rfl
set_option maxRecDepth 1000000 in
theorem ruU332 (q : Nat) : V.upto Try.prog (aU 3 3 2) 400 bU (hU q true false 3) (idsL 4) kU 576 = some (.normal, hU q false false 4) := by kernel_rfl
set_option maxRecDepth 1000000 in
theorem ruU340 (q : Nat) : V.upto Try.prog (aU 3 4 0) 400 bU (hU q true true 3) (idsL 4) kU 576 = some (.normal, hU q true true 4) := by kernel_rfl
set_option maxRecDepth 1000000 in
theorem ruU341 (q : Nat) : V.upto Try.prog (aU 3 4 1) 400 bU (hU q true false 3) (idsL 4) kU 576 = some (.normal, hU q true true 4) := by kernel_rfl
set_option maxRecDepth 1000000 in
theorem ruU342 (q : Nat) : V.upto Try.prog (aU 3 4 2) 400 bU (hU q true false 3) (idsL 4) kU 576 = some (.normal, hU q true false 4) := by kernel_rfl
set_option maxRecDepth 1000000 in
theorem ruU400 (q : Nat) : V.upto Try.prog (aU 4 0 0) 400 bU (hU q false true 4) (idsL 5) kU 576 = some (.normal, hU q false true 5) := by kernel_rfl
set_option maxRecDepth 1000000 in
theorem ruU401 (q : Nat) : V.upto Try.prog (aU 4 0 1) 400 bU (hU q false false 4) (idsL 5) kU 576 = some (.normal, hU q false true 5) := by kernel_rfl
set_option maxRecDepth 1000000 in
theorem ruU402 (q : Nat) : V.upto Try.prog (aU 4 0 2) 400 bU (hU q false false 4) (idsL 5) kU 576 = some (.normal, hU q false false 5) := by kernel_rfl
set_option maxRecDepth 1000000 in
theorem ruU410 (q : Nat) : V.upto Try.prog (aU 4 1 0) 400 bU (hU q true true 4) (idsL 5) kU 576 = some (.normal, hU q false true 5) := by kernel_rfl
set_option maxRecDepth 1000000 in
theorem ruU411 (q : Nat) : V.upto Try.prog (aU 4 1 1) 400 bU (hU q true false 4) (idsL 5) kU 576 = some (.normal, hU q false true 5) := by kernel_rfl
set_option maxRecDepth 1000000 in
theorem ruU412 (q : Nat) : V.upto Try.prog (aU 4 1 2) 400 bU (hU q true false 4) (idsL 5) kU 576 = some (.normal, hU q false false 5) := by kernel_rfl
set_option maxRecDepth 1000000 in
theorem ruU420 (q : Nat) : V.upto Try.prog (aU 4 2 0) 400 bU (hU q true true 4) (idsL 5) kU 576 = some (.normal, hU q false true 5) := by kernel_rfl
set_option maxRecDepth 1000000 in
theorem ruU421 (q : Nat) : V.upto Try.prog (aU 4 2 1) 400 bU (hU q true false 4) (idsL 5) kU 576 = some (.normal, hU q false true 5) := by kernel_rfl
set_option maxRecDepth 1000000 in
theorem ruU422 (q : Nat) : V.upto Try.prog (aU 4 2 2) 400 bU (hU q true false 4) (idsL 5) kU 576 = some (.normal, hU q false false 5) := by kernel_rfl
set_option maxRecDepth 1000000 in
theorem ruU430 (q : Nat) : V.upto Try.prog (aU 4 3 0) 400 bU (hU q true true 4) (idsL 5) kU 576 = some (.normal, hU q false true 5) := by kernel_rfl
set_option maxRecDepth 1000000 in
theorem ruU431 (q : Nat) : V.upto Try.prog (aU 4 3 1) 400 bU (hU q true false 4) (idsL 5) kU 576 = some (.normal, hU q false true 5) := by kernel_rfl
set_option maxRecDepth 1000000 in
theorem ruU432 (q : Nat) : V.upto Try.prog (aU 4 3 2) 400 bU (hU q true false 4) (idsL 5) kU 576 = some (.normal, hU q false false 5) := by kernel_rfl
set_option maxRecDepth 1000000 in
theorem ruU440 (q : Nat) : V.upto Try.prog (aU 4 4 0) 400 bU (hU q true true 4) (idsL 5) kU 576 = some (.normal, hU q true true 5) := by kernel_rfl
set_option maxRecDepth 1000000 in
theorem ruU441 (q : Nat) : V.upto Try.prog (aU 4 4 1) 400 bU (hU q true false 4) (idsL 5) kU 576 = some (.normal, hU q true true 5) := by kernel_rfl
set_option maxRecDepth 1000000 in
theorem ruU442 (q : Nat) : V.upto Try.prog (aU 4 4 2) 400 bU (hU q true false 4) (idsL 5) kU 576 = some (.normal, hU q true false 5) := by kernel_rfl
theorem ruU (q i R T : Nat) (hi : i < 5) (hR : R < 5) (h3 : R = 3 → i ≠ 0) (hT : T < 3) : V.upto Try.prog (aU i R T) 400 bU (hU q (decide (R ≠ 0)) (decide (T = 0)) i) (idsL (i + 1)) kU 576 = some (.normal, hU q (decide (R = 4)) (decide (T ≤ 1)) (i + 1)) := by
  have h1 : i = 0 ∨ i = 1 ∨ i = 2 ∨ i = 3 ∨ i = 4 := by omega
  have h2 : R = 0 ∨ R = 1 ∨ R = 2 ∨ R = 3 ∨ R = 4 := by omega
  have h4 : T = 0 ∨ T = 1 ∨ T = 2 := by omega
  rcases h1 with rfl | rfl | rfl | rfl | rfl <;> rcases h2 with rfl | rfl | rfl | rfl | rfl <;> rcases h4 with rfl | rfl | rfl
  · exact ruU000 q
  · exact ruU001 q
  · exact ruU002 q
  · exact ruU010 q
  · exact ruU011 q
  · exact ruU012 q
  · exact ruU020 q
  · exact ruU021 q
  · exact ruU022 q
  · exact absurd rfl (h3 rfl)
  · exact absurd rfl (h3 rfl)
  · exact absurd rfl (h3 rfl)
  · exact ruU040 q
  · exact ruU041 q
  · exact ruU042 q
  · exact ruU100 q
  · exact ruU101 q
  · exact ruU102 q
  · exact ruU110 q
  · exact ruU111 q
  · exact ruU112 q
  · exact ruU120 q
  · exact ruU121 q
  · exact ruU122 q
  · exact ruU130 q
  · exact ruU131 q
  · exact ruU132 q
  · exact ruU140 q
  · exact ruU141 q
  · exact ruU142 q
  · exact ruU200 q
  · exact ruU201 q
  · exact ruU202 q
  · exact ruU210 q
  · exact ruU211 q
  · exact ruU212 q
  · exact ruU220 q
  · exact ruU221 q
  · exact ruU222 q
  · exact ruU230 q
  · exact ruU231 q
  · exact ruU232 q
  · exact ruU240 q
  · exact ruU241 q
  · exact ruU242 q
  · exact ruU300 q
  · exact ruU301 q
  · exact ruU302 q
  · exact ruU310 q
  · exact ruU311 q
  · exact ruU312 q
  · exact ruU320 q
  · exact ruU321 q
  · exact ruU322 q
  · exact ruU330 q
  · exact ruU331 q
  · exact ruU332 q
  · exact ruU340 q
  · exact ruU341 q
  · exact ruU342 q
  · exact ruU400 q
  · exact ruU401 q
  · exact ruU402 q
  · exact ruU410 q
  · exact ruU411 q
  · exact ruU412 q
  · exact ruU420 q
  · exact ruU421 q
  · exact ruU422 q
  · exact ruU430 q
  · exact ruU431 q
  · exact ruU432 q
  · exact ruU440 q
  · exact ruU441 q
  · exact ruU442 q
def fXU (i : Nat) : List V.Fact := [.cmp .lss (.int .i64 i) (.sym 4) false]
def aXU (i : Nat) : V.An := { an5 with orc := V.orcOr (V.orcOf (fXU i)) (V.orcG gLn) }
set_option maxRecDepth 1000000 in
theorem ruXU0ff (q : Nat) : V.upto Try.prog (aXU 0) 400 bU (hU q false false 0) (idsL 0) kU 160 = some (.exit 2, hU q false false 0) := by kernel_rfl
set_option maxRecDepth 1000000 in
theorem ruXU0ft (q : Nat) : V.upto Try.prog (aXU 0) 400 bU (hU q false true 0) (idsL 0) kU 160 = some (.exit 2, hU q false true 0) := by kernel_rfl
set_option maxRecDepth 1000000 in
theorem ruXU0tf (q : Nat) : V.upto Try.prog (aXU 0) 400 bU (hU q true false 0) (idsL 0) kU 160 = some (.exit 2, hU q true false 0) := by kernel_rfl
set_option maxRecDepth 1000000 in
theorem ruXU0tt (q : Nat) : V.upto Try.prog (aXU 0) 400 bU (hU q true true 0) (idsL 0) kU 160 = some (.exit 2, hU q true true 0) := by kernel_rfl
set_option maxRecDepth 1000000 in
theorem ruXU1ff (q : Nat) : V.upto Try.prog (aXU 1) 400 bU (hU q false false 1) (idsL 1) kU 576 = some (.exit 2, hU q false false 1) := by kernel_rfl
set_option maxRecDepth 1000000 in
theorem ruXU1ft (q : Nat) : V.upto Try.prog (aXU 1) 400 bU (hU q false true 1) (idsL 1) kU 576 = some (.exit 2, hU q false true 1) := by kernel_rfl
set_option maxRecDepth 1000000 in
theorem ruXU1tf (q : Nat) : V.upto Try.prog (aXU 1) 400 bU (hU q true false 1) (idsL 1) kU 576 = some (.exit 2, hU q true false 1) := by kernel_rfl
set_option maxRecDepth 1000000 in
theorem ruXU1tt (q : Nat) : V.upto Try.prog (aXU 1) 400 bU (hU q true true 1) (idsL 1) kU 576 = some (.exit 2, hU q true true 1) := by kernel_rfl
set_option maxRecDepth 1000000 in
theorem ruXU2ff (q : Nat) : V.upto Try.prog (aXU 2) 400 bU (hU q false false 2) (idsL 2) kU 576 = some (.exit 2, hU q false false 2) := by kernel_rfl
set_option maxRecDepth 1000000 in
theorem ruXU2ft (q : Nat) : V.upto Try.prog (aXU 2) 400 bU (hU q false true 2) (idsL 2) kU 576 = some (.exit 2, hU q false true 2) := by kernel_rfl
set_option maxRecDepth 1000000 in
theorem ruXU2tf (q : Nat) : V.upto Try.prog (aXU 2) 400 bU (hU q true false 2) (idsL 2) kU 576 = some (.exit 2, hU q true false 2) := by kernel_rfl
set_option maxRecDepth 1000000 in
theorem ruXU2tt (q : Nat) : V.upto Try.prog (aXU 2) 400 bU (hU q true true 2) (idsL 2) kU 576 = some (.exit 2, hU q true true 2) := by kernel_rfl
set_option maxRecDepth 1000000 in
theorem ruXU3ff (q : Nat) : V.upto Try.prog (aXU 3) 400 bU (hU q false false 3) (idsL 3) kU 576 = some (.exit 2, hU q false false 3) := by kernel_rfl
set_option maxRecDepth 1000000 in
theorem ruXU3ft (q : Nat) : V.upto Try.prog (aXU 3) 400 bU (hU q false true 3) (idsL 3) kU 576 = some (.exit 2, hU q false true 3) := by kernel_rfl
set_option maxRecDepth 1000000 in
theorem ruXU3tf (q : Nat) : V.upto Try.prog (aXU 3) 400 bU (hU q true false 3) (idsL 3) kU 576 = some (.exit 2, hU q true false 3) := by kernel_rfl
set_option maxRecDepth 1000000 in
theorem ruXU3tt (q : Nat) : V.upto Try.prog (aXU 3) 400 bU (hU q true true 3) (idsL 3) kU 576 = some (.exit 2, hU q true true 3) := by kernel_rfl
set_option maxRecDepth 1000000 in
theorem ruXU4ff (q : Nat) : V.upto Try.prog (aXU 4) 400 bU (hU q false false 4) (idsL 4) kU 576 = some (.exit 2, hU q false false 4) := by kernel_rfl
set_option maxRecDepth 1000000 in
theorem ruXU4ft (q : Nat) : V.upto Try.prog (aXU 4) 400 bU (hU q false true 4) (idsL 4) kU 576 = some (.exit 2, hU q false true 4) := by kernel_rfl
set_option maxRecDepth 1000000 in
theorem ruXU4tf (q : Nat) : V.upto Try.prog (aXU 4) 400 bU (hU q true false 4) (idsL 4) kU 576 = some (.exit 2, hU q true false 4) := by kernel_rfl
set_option maxRecDepth 1000000 in
theorem ruXU4tt (q : Nat) : V.upto Try.prog (aXU 4) 400 bU (hU q true true 4) (idsL 4) kU 576 = some (.exit 2, hU q true true 4) := by kernel_rfl
set_option maxRecDepth 1000000 in
theorem ruXU5ff (q : Nat) : V.upto Try.prog (aXU 5) 400 bU (hU q false false 5) (idsL 5) kU 576 = some (.exit 2, hU q false false 5) := by kernel_rfl
set_option maxRecDepth 1000000 in
theorem ruXU5ft (q : Nat) : V.upto Try.prog (aXU 5) 400 bU (hU q false true 5) (idsL 5) kU 576 = some (.exit 2, hU q false true 5) := by kernel_rfl
set_option maxRecDepth 1000000 in
theorem ruXU5tf (q : Nat) : V.upto Try.prog (aXU 5) 400 bU (hU q true false 5) (idsL 5) kU 576 = some (.exit 2, hU q true false 5) := by kernel_rfl
set_option maxRecDepth 1000000 in
theorem ruXU5tt (q : Nat) : V.upto Try.prog (aXU 5) 400 bU (hU q true true 5) (idsL 5) kU 576 = some (.exit 2, hU q true true 5) := by kernel_rfl
theorem ruXU (q i : Nat) (r t : Bool) (hi : i < 6) : V.upto Try.prog (aXU i) 400 bU (hU q r t i) (idsL i) kU (if i = 0 then 160 else 576) = some (.exit 2, hU q r t i) := by
  have h1 : i = 0 ∨ i = 1 ∨ i = 2 ∨ i = 3 ∨ i = 4 ∨ i = 5 := by omega
  rcases h1 with rfl | rfl | rfl | rfl | rfl | rfl <;> cases r <;> cases t
  · exact ruXU0ff q
  · exact ruXU0ft q
  · exact ruXU0tf q
  · exact ruXU0tt q
  · exact ruXU1ff q
  · exact ruXU1ft q
  · exact ruXU1tf q
  · exact ruXU1tt q
  · exact ruXU2ff q
  · exact ruXU2ft q
  · exact ruXU2tf q
  · exact ruXU2tt q
  · exact ruXU3ff q
  · exact ruXU3ft q
  · exact ruXU3tf q
  · exact ruXU3tt q
  · exact ruXU4ff q
  · exact ruXU4ft q
  · exact ruXU4tf q
  · exact ruXU4tt q
  · exact ruXU5ff q
  · exact ruXU5ft q
  · exact ruXU5tf q
  · exact ruXU5tt q
end Go.Proofs.Ytchmhmhjajocnaa.Say
