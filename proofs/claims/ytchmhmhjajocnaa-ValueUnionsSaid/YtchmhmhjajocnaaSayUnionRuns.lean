/- ValueUnions: what value.Fields tells of rows of numbers. -/
import Derived.Test.YtchmhmhjajocnaaSayUnionBase
set_option linter.unusedVariables false
set_option linter.unusedSimpArgs false
namespace Go.Proofs.Ytchmhmhjajocnaa.Say
open Go Go.RowKit
open V (D)
instance : V.Sig := V.sig0

/-! Fields and elements, one by one. -/
def fldR (q c : Nat) : List D := if c = 0 ∨ 4 < c then [noFld, .bool false] else [fld c (req q c), .bool true]
def rowsF : List (List D × List D) := (List.range 4).flatMap fun q => (List.range 6).map fun c => ([xk q, num c], fldR q c)
def rowsC : List (List D × List D) := (List.range 5).map fun j => ([s0, i8, elt j], [.bool true])
def tFC : V.Tbl := [(10, rowsF), (7, rowsC)]
set_option maxRecDepth 1000000 in
theorem ruFld : (rowsF.all fun e => V.tells Try.prog an5 400 10 e.1 e.2) = true := by kernel_rfl
set_option maxRecDepth 1000000 in
theorem ruChk : (rowsC.all fun e => V.tells Try.prog an5 400 7 e.1 e.2) = true := by kernel_rfl
theorem tFCok : V.TblOk Try.prog tFC :=
  V.TblOk.cons (fun e he => V.holds_of_tells good5 regs follows (List.all_eq_true.1 ruFld e he)) (V.TblOk.cons (fun e he => V.holds_of_tells good5 regs follows (List.all_eq_true.1 ruChk e he)) V.TblOk.nil)
theorem tFCno : V.tblNo tFC = true := by kernel_rfl
theorem goodB (s : V.Sig) : @V.Good s Try.prog an5 := @V.Good.mk s _ _ named (@V.spec_of_tbl s _ _ (V.TblOk.any tno to5)) (fun _ _ _ _ h => nomatch h)

/-! The code of value.Fields. -/
def cf : Code → Code
  | .seq a _ => a
  | c => c
def cs : Code → Code
  | .seq _ b => b
  | c => c
def cb : Code → Code
  | .block _ b => b
  | .loop b => b
  | c => c
noncomputable def cF : Code := match Try.f5.body with
  | some c => c
  | none => .skip
noncomputable def cF0 : Code := cf cF
noncomputable def cF1 : Code := cf (cs cF)
noncomputable def cF3 : Code := cf (cf (cs (cs cF)))
noncomputable def bF : Code := cb (cb (cs (cf (cs (cs cF)))))
noncomputable def tF : Code := cs (cs (cs cF))
theorem bodyF : Try.f5.body = some cF := by kernel_rfl
theorem shapeF : cF = .seq cF0 (.seq cF1 (.seq (.seq cF3 (.block 0 (.loop bF))) tF)) := by kernel_rfl
theorem regsF : V.Regs cF0 ∧ V.Regs cF1 ∧ (V.Regs cF3 ∧ V.Regs bF) ∧ V.Regs tF := by
  have h := regs 5 Try.f5 cF Try.func5 bodyF
  rw [shapeF] at h
  exact h
def oS : V.Obj := ⟨38, 3, true, 0, false, [D.nil, .nil, .nil].map .dat⟩
def oX (q : Nat) : V.Obj := ⟨27, 3, true, 0, false, [.int .i64 (sort_ q), mt, flds q].map .dat⟩
def oV (l ids : D) : V.Obj := ⟨30, 5, true, 0, false, [.int .i64 12, .int .i64 0, mt, l, ids].map .dat⟩
/-- at the head of the loop; at the end -/
def FS (q : Nat) (l ids n : D) (i : Nat) : V.St := ⟨[.junk, .junk, .junk, .ptr 0 0 0, .ptr 8 0 0, .ptr 16 0 0, .dat (.bool false)] ++ (List.replicate 19 .junk ++ ([.dat ids, .dat n, .dat (num i)] ++ List.replicate 72 .junk)), [(0, oS), (8, oX q), (16, oV l ids)], 160⟩
def FR (q : Nat) (l ids : D) (b : Bool) : V.St := ⟨[.junk, .junk, .junk, .junk, .junk, .junk, .dat (.bool b)] ++ List.replicate 94 .junk, [(0, oS), (8, oX q), (16, oV l ids)], 160⟩
def kF : List Bool := [false, false, false, true, true, true, true, false, false, false, false, false, false, false, false, false, false, false, false, false, false, false, false, false, false, false, true, true, true]
def kR : List Bool := [false, false, false, false, false, false, true]
theorem inFlds (σ : Nat → D) (q : Nat) : V.inD σ (flds q) = flds q := V.inD_no σ _ (by unfold flds fld i8 mt; rfl)
theorem inoS (σ : Nat → D) : V.inO σ oS = oS := by
  simp only [V.inO, oS, V.inUs_eq, List.map_cons, List.map_nil, V.inU, V.inD]
theorem inoX (σ : Nat → D) (q : Nat) : V.inO σ (oX q) = oX q := by
  simp only [V.inO, oX, V.inUs_eq, List.map_cons, List.map_nil, V.inU, V.inD, inMt, inFlds]
theorem inoV (σ : Nat → D) (l ids : D) : V.inO σ (oV l ids) = oV (V.inD σ l) (V.inD σ ids) := by
  simp only [V.inO, oV, V.inUs_eq, List.map_cons, List.map_nil, V.inU, V.inD, inMt]
theorem inNum (σ : Nat → D) (c : Nat) : V.inD σ (num c) = num c := by simp only [num, V.inD]
theorem inFS (σ : Nat → D) (q : Nat) (l ids n : D) (i : Nat) : V.inS σ (FS q l ids n i) = FS q (V.inD σ l) (V.inD σ ids) (V.inD σ n) i := by
  simp only [FS, V.inS, V.inUs_eq, List.map_append, List.map_cons, List.map_nil, V.inU, V.inD, List.map_replicate, V.inSt, inoS, inoX, inoV, inNum]
theorem inFR (σ : Nat → D) (q : Nat) (l ids : D) (b : Bool) : V.inS σ (FR q l ids b) = FR q (V.inD σ l) (V.inD σ ids) b := by
  simp only [FR, V.inS, V.inUs_eq, List.map_append, List.map_cons, List.map_nil, V.inU, V.inD, List.map_replicate, V.inSt, inoS, inoX, inoV]

/-! Its runs. -/
/-- 1: the numbers; 2: the elements; 4: how many; 6: the number ahead -/
def hF (q i : Nat) : V.St := FS q (.sym 2) (.sym 1) (.sym 4) i
def gF (i c : Nat) : List V.Gact := [.ix 24 (.sym 1) (.int .i64 i) [num c], .ix 28 (.sym 2) (.int .i64 i) [.int .i64 3, .int .i64 i, mt, .nil, .nil]] ++ (if i = 0 then [] else [.ix 24 (.sym 1) (.int .i64 (i - 1 : Nat)) [.sym 6]])
def fF (i c : Nat) (g : Bool) : List V.Fact := .cmp .lss (.int .i64 i) (.sym 4) true :: (if i = 0 then [] else [.cmp .geq (.sym 6) (num c) g])
def aF (i c : Nat) (g : Bool) : V.An := { an5 with spec := V.inTbl tFC, orc := V.orcOr (V.orcOf (fF i c g)) (V.orcG (gF i c)) }
def outF (q i c : Nat) (g : Bool) : V.X × V.St := if c = 0 ∨ 4 < c ∨ (g = true ∧ i ≠ 0) then (.ret, FR q (.sym 2) (.sym 1) false) else (.normal, hF q (i + 1))
def keepF (i c : Nat) (g : Bool) : List Bool := if c = 0 ∨ 4 < c ∨ (g = true ∧ i ≠ 0) then kR else kF
set_option maxRecDepth 1000000 in
theorem ruF000f : V.uptoD Try.prog (aF 0 0 false) 400 bF (hF 0 0) [0, 8, 16] (keepF 0 0 false) 160 = some (outF 0 0 0 false) := by kernel_rfl
set_option maxRecDepth 1000000 in
theorem ruF001f : V.uptoD Try.prog (aF 0 1 false) 400 bF (hF 0 0) [0, 8, 16] (keepF 0 1 false) 160 = some (outF 0 0 1 false) := by kernel_rfl
set_option maxRecDepth 1000000 in
theorem ruF002f : V.uptoD Try.prog (aF 0 2 false) 400 bF (hF 0 0) [0, 8, 16] (keepF 0 2 false) 160 = some (outF 0 0 2 false) := by kernel_rfl
set_option maxRecDepth 1000000 in
theorem ruF003f : V.uptoD Try.prog (aF 0 3 false) 400 bF (hF 0 0) [0, 8, 16] (keepF 0 3 false) 160 = some (outF 0 0 3 false) := by kernel_rfl
set_option maxRecDepth 1000000 in
theorem ruF004f : V.uptoD Try.prog (aF 0 4 false) 400 bF (hF 0 0) [0, 8, 16] (keepF 0 4 false) 160 = some (outF 0 0 4 false) := by kernel_rfl
set_option maxRecDepth 1000000 in
theorem ruF005f : V.uptoD Try.prog (aF 0 5 false) 400 bF (hF 0 0) [0, 8, 16] (keepF 0 5 false) 160 = some (outF 0 0 5 false) := by kernel_rfl
set_option maxRecDepth 1000000 in
theorem ruF010f : V.uptoD Try.prog (aF 1 0 false) 400 bF (hF 0 1) [0, 8, 16] (keepF 1 0 false) 160 = some (outF 0 1 0 false) := by kernel_rfl
set_option maxRecDepth 1000000 in
theorem ruF010t : V.uptoD Try.prog (aF 1 0 true) 400 bF (hF 0 1) [0, 8, 16] (keepF 1 0 true) 160 = some (outF 0 1 0 true) := by kernel_rfl
set_option maxRecDepth 1000000 in
theorem ruF011f : V.uptoD Try.prog (aF 1 1 false) 400 bF (hF 0 1) [0, 8, 16] (keepF 1 1 false) 160 = some (outF 0 1 1 false) := by kernel_rfl
set_option maxRecDepth 1000000 in
theorem ruF011t : V.uptoD Try.prog (aF 1 1 true) 400 bF (hF 0 1) [0, 8, 16] (keepF 1 1 true) 160 = some (outF 0 1 1 true) := by kernel_rfl
set_option maxRecDepth 1000000 in
theorem ruF012f : V.uptoD Try.prog (aF 1 2 false) 400 bF (hF 0 1) [0, 8, 16] (keepF 1 2 false) 160 = some (outF 0 1 2 false) := by kernel_rfl
set_option maxRecDepth 1000000 in
theorem ruF012t : V.uptoD Try.prog (aF 1 2 true) 400 bF (hF 0 1) [0, 8, 16] (keepF 1 2 true) 160 = some (outF 0 1 2 true) := by kernel_rfl
set_option maxRecDepth 1000000 in
theorem ruF013f : V.uptoD Try.prog (aF 1 3 false) 400 bF (hF 0 1) [0, 8, 16] (keepF 1 3 false) 160 = some (outF 0 1 3 false) := by kernel_rfl
set_option maxRecDepth 1000000 in
theorem ruF013t : V.uptoD Try.prog (aF 1 3 true) 400 bF (hF 0 1) [0, 8, 16] (keepF 1 3 true) 160 = some (outF 0 1 3 true) := by kernel_rfl
set_option maxRecDepth 1000000 in
theorem ruF014f : V.uptoD Try.prog (aF 1 4 false) 400 bF (hF 0 1) [0, 8, 16] (keepF 1 4 false) 160 = some (outF 0 1 4 false) := by kernel_rfl
set_option maxRecDepth 1000000 in
theorem ruF014t : V.uptoD Try.prog (aF 1 4 true) 400 bF (hF 0 1) [0, 8, 16] (keepF 1 4 true) 160 = some (outF 0 1 4 true) := by kernel_rfl
set_option maxRecDepth 1000000 in
theorem ruF015f : V.uptoD Try.prog (aF 1 5 false) 400 bF (hF 0 1) [0, 8, 16] (keepF 1 5 false) 160 = some (outF 0 1 5 false) := by kernel_rfl
set_option maxRecDepth 1000000 in
theorem ruF015t : V.uptoD Try.prog (aF 1 5 true) 400 bF (hF 0 1) [0, 8, 16] (keepF 1 5 true) 160 = some (outF 0 1 5 true) := by kernel_rfl
set_option maxRecDepth 1000000 in
theorem ruF020f : V.uptoD Try.prog (aF 2 0 false) 400 bF (hF 0 2) [0, 8, 16] (keepF 2 0 false) 160 = some (outF 0 2 0 false) := by kernel_rfl
set_option maxRecDepth 1000000 in
theorem ruF020t : V.uptoD Try.prog (aF 2 0 true) 400 bF (hF 0 2) [0, 8, 16] (keepF 2 0 true) 160 = some (outF 0 2 0 true) := by kernel_rfl
set_option maxRecDepth 1000000 in
theorem ruF021f : V.uptoD Try.prog (aF 2 1 false) 400 bF (hF 0 2) [0, 8, 16] (keepF 2 1 false) 160 = some (outF 0 2 1 false) := by kernel_rfl
set_option maxRecDepth 1000000 in
theorem ruF021t : V.uptoD Try.prog (aF 2 1 true) 400 bF (hF 0 2) [0, 8, 16] (keepF 2 1 true) 160 = some (outF 0 2 1 true) := by kernel_rfl
set_option maxRecDepth 1000000 in
theorem ruF022f : V.uptoD Try.prog (aF 2 2 false) 400 bF (hF 0 2) [0, 8, 16] (keepF 2 2 false) 160 = some (outF 0 2 2 false) := by kernel_rfl
set_option maxRecDepth 1000000 in
theorem ruF022t : V.uptoD Try.prog (aF 2 2 true) 400 bF (hF 0 2) [0, 8, 16] (keepF 2 2 true) 160 = some (outF 0 2 2 true) := by kernel_rfl
set_option maxRecDepth 1000000 in
theorem ruF023f : V.uptoD Try.prog (aF 2 3 false) 400 bF (hF 0 2) [0, 8, 16] (keepF 2 3 false) 160 = some (outF 0 2 3 false) := by kernel_rfl
set_option maxRecDepth 1000000 in
theorem ruF023t : V.uptoD Try.prog (aF 2 3 true) 400 bF (hF 0 2) [0, 8, 16] (keepF 2 3 true) 160 = some (outF 0 2 3 true) := by kernel_rfl
set_option maxRecDepth 1000000 in
theorem ruF024f : V.uptoD Try.prog (aF 2 4 false) 400 bF (hF 0 2) [0, 8, 16] (keepF 2 4 false) 160 = some (outF 0 2 4 false) := by kernel_rfl
set_option maxRecDepth 1000000 in
theorem ruF024t : V.uptoD Try.prog (aF 2 4 true) 400 bF (hF 0 2) [0, 8, 16] (keepF 2 4 true) 160 = some (outF 0 2 4 true) := by kernel_rfl
set_option maxRecDepth 1000000 in
theorem ruF025f : V.uptoD Try.prog (aF 2 5 false) 400 bF (hF 0 2) [0, 8, 16] (keepF 2 5 false) 160 = some (outF 0 2 5 false) := by kernel_rfl
set_option maxRecDepth 1000000 in
theorem ruF025t : V.uptoD Try.prog (aF 2 5 true) 400 bF (hF 0 2) [0, 8, 16] (keepF 2 5 true) 160 = some (outF 0 2 5 true) := by kernel_rfl
set_option maxRecDepth 1000000 in
theorem ruF030f : V.uptoD Try.prog (aF 3 0 false) 400 bF (hF 0 3) [0, 8, 16] (keepF 3 0 false) 160 = some (outF 0 3 0 false) := by kernel_rfl
set_option maxRecDepth 1000000 in
theorem ruF030t : V.uptoD Try.prog (aF 3 0 true) 400 bF (hF 0 3) [0, 8, 16] (keepF 3 0 true) 160 = some (outF 0 3 0 true) := by kernel_rfl
set_option maxRecDepth 1000000 in
theorem ruF031f : V.uptoD Try.prog (aF 3 1 false) 400 bF (hF 0 3) [0, 8, 16] (keepF 3 1 false) 160 = some (outF 0 3 1 false) := by kernel_rfl
set_option maxRecDepth 1000000 in
theorem ruF031t : V.uptoD Try.prog (aF 3 1 true) 400 bF (hF 0 3) [0, 8, 16] (keepF 3 1 true) 160 = some (outF 0 3 1 true) := by kernel_rfl
set_option maxRecDepth 1000000 in
theorem ruF032f : V.uptoD Try.prog (aF 3 2 false) 400 bF (hF 0 3) [0, 8, 16] (keepF 3 2 false) 160 = some (outF 0 3 2 false) := by kernel_rfl
set_option maxRecDepth 1000000 in
theorem ruF032t : V.uptoD Try.prog (aF 3 2 true) 400 bF (hF 0 3) [0, 8, 16] (keepF 3 2 true) 160 = some (outF 0 3 2 true) := by kernel_rfl
set_option maxRecDepth 1000000 in
theorem ruF033f : V.uptoD Try.prog (aF 3 3 false) 400 bF (hF 0 3) [0, 8, 16] (keepF 3 3 false) 160 = some (outF 0 3 3 false) := by kernel_rfl
set_option maxRecDepth 1000000 in
theorem ruF033t : V.uptoD Try.prog (aF 3 3 true) 400 bF (hF 0 3) [0, 8, 16] (keepF 3 3 true) 160 = some (outF 0 3 3 true) := by kernel_rfl
set_option maxRecDepth 1000000 in
theorem ruF034f : V.uptoD Try.prog (aF 3 4 false) 400 bF (hF 0 3) [0, 8, 16] (keepF 3 4 false) 160 = some (outF 0 3 4 false) := by kernel_rfl
set_option maxRecDepth 1000000 in
theorem ruF034t : V.uptoD Try.prog (aF 3 4 true) 400 bF (hF 0 3) [0, 8, 16] (keepF 3 4 true) 160 = some (outF 0 3 4 true) := by kernel_rfl
set_option maxRecDepth 1000000 in
theorem ruF035f : V.uptoD Try.prog (aF 3 5 false) 400 bF (hF 0 3) [0, 8, 16] (keepF 3 5 false) 160 = some (outF 0 3 5 false) := by kernel_rfl
set_option maxRecDepth 1000000 in
theorem ruF035t : V.uptoD Try.prog (aF 3 5 true) 400 bF (hF 0 3) [0, 8, 16] (keepF 3 5 true) 160 = some (outF 0 3 5 true) := by kernel_rfl
set_option maxRecDepth 1000000 in
theorem ruF040f : V.uptoD Try.prog (aF 4 0 false) 400 bF (hF 0 4) [0, 8, 16] (keepF 4 0 false) 160 = some (outF 0 4 0 false) := by kernel_rfl
set_option maxRecDepth 1000000 in
theorem ruF040t : V.uptoD Try.prog (aF 4 0 true) 400 bF (hF 0 4) [0, 8, 16] (keepF 4 0 true) 160 = some (outF 0 4 0 true) := by kernel_rfl
set_option maxRecDepth 1000000 in
theorem ruF041f : V.uptoD Try.prog (aF 4 1 false) 400 bF (hF 0 4) [0, 8, 16] (keepF 4 1 false) 160 = some (outF 0 4 1 false) := by kernel_rfl
set_option maxRecDepth 1000000 in
theorem ruF041t : V.uptoD Try.prog (aF 4 1 true) 400 bF (hF 0 4) [0, 8, 16] (keepF 4 1 true) 160 = some (outF 0 4 1 true) := by kernel_rfl
set_option maxRecDepth 1000000 in
theorem ruF042f : V.uptoD Try.prog (aF 4 2 false) 400 bF (hF 0 4) [0, 8, 16] (keepF 4 2 false) 160 = some (outF 0 4 2 false) := by kernel_rfl
set_option maxRecDepth 1000000 in
theorem ruF042t : V.uptoD Try.prog (aF 4 2 true) 400 bF (hF 0 4) [0, 8, 16] (keepF 4 2 true) 160 = some (outF 0 4 2 true) := by kernel_rfl
set_option maxRecDepth 1000000 in
theorem ruF043f : V.uptoD Try.prog (aF 4 3 false) 400 bF (hF 0 4) [0, 8, 16] (keepF 4 3 false) 160 = some (outF 0 4 3 false) := by kernel_rfl
set_option maxRecDepth 1000000 in
theorem ruF043t : V.uptoD Try.prog (aF 4 3 true) 400 bF (hF 0 4) [0, 8, 16] (keepF 4 3 true) 160 = some (outF 0 4 3 true) := by kernel_rfl
set_option maxRecDepth 1000000 in
theorem ruF044f : V.uptoD Try.prog (aF 4 4 false) 400 bF (hF 0 4) [0, 8, 16] (keepF 4 4 false) 160 = some (outF 0 4 4 false) := by kernel_rfl
set_option maxRecDepth 1000000 in
theorem ruF044t : V.uptoD Try.prog (aF 4 4 true) 400 bF (hF 0 4) [0, 8, 16] (keepF 4 4 true) 160 = some (outF 0 4 4 true) := by kernel_rfl
set_option maxRecDepth 1000000 in
theorem ruF045f : V.uptoD Try.prog (aF 4 5 false) 400 bF (hF 0 4) [0, 8, 16] (keepF 4 5 false) 160 = some (outF 0 4 5 false) := by kernel_rfl
set_option maxRecDepth 1000000 in
theorem ruF045t : V.uptoD Try.prog (aF 4 5 true) 400 bF (hF 0 4) [0, 8, 16] (keepF 4 5 true) 160 = some (outF 0 4 5 true) := by kernel_rfl
set_option maxRecDepth 1000000 in
theorem ruF100f : V.uptoD Try.prog (aF 0 0 false) 400 bF (hF 1 0) [0, 8, 16] (keepF 0 0 false) 160 = some (outF 1 0 0 false) := by kernel_rfl
set_option maxRecDepth 1000000 in
theorem ruF101f : V.uptoD Try.prog (aF 0 1 false) 400 bF (hF 1 0) [0, 8, 16] (keepF 0 1 false) 160 = some (outF 1 0 1 false) := by kernel_rfl
set_option maxRecDepth 1000000 in
theorem ruF102f : V.uptoD Try.prog (aF 0 2 false) 400 bF (hF 1 0) [0, 8, 16] (keepF 0 2 false) 160 = some (outF 1 0 2 false) := by kernel_rfl
set_option maxRecDepth 1000000 in
theorem ruF103f : V.uptoD Try.prog (aF 0 3 false) 400 bF (hF 1 0) [0, 8, 16] (keepF 0 3 false) 160 = some (outF 1 0 3 false) := by kernel_rfl
set_option maxRecDepth 1000000 in
theorem ruF104f : V.uptoD Try.prog (aF 0 4 false) 400 bF (hF 1 0) [0, 8, 16] (keepF 0 4 false) 160 = some (outF 1 0 4 false) := by kernel_rfl
set_option maxRecDepth 1000000 in
theorem ruF105f : V.uptoD Try.prog (aF 0 5 false) 400 bF (hF 1 0) [0, 8, 16] (keepF 0 5 false) 160 = some (outF 1 0 5 false) := by kernel_rfl
set_option maxRecDepth 1000000 in
theorem ruF110f : V.uptoD Try.prog (aF 1 0 false) 400 bF (hF 1 1) [0, 8, 16] (keepF 1 0 false) 160 = some (outF 1 1 0 false) := by kernel_rfl
set_option maxRecDepth 1000000 in
theorem ruF110t : V.uptoD Try.prog (aF 1 0 true) 400 bF (hF 1 1) [0, 8, 16] (keepF 1 0 true) 160 = some (outF 1 1 0 true) := by kernel_rfl
set_option maxRecDepth 1000000 in
theorem ruF111f : V.uptoD Try.prog (aF 1 1 false) 400 bF (hF 1 1) [0, 8, 16] (keepF 1 1 false) 160 = some (outF 1 1 1 false) := by kernel_rfl
set_option maxRecDepth 1000000 in
theorem ruF111t : V.uptoD Try.prog (aF 1 1 true) 400 bF (hF 1 1) [0, 8, 16] (keepF 1 1 true) 160 = some (outF 1 1 1 true) := by kernel_rfl
set_option maxRecDepth 1000000 in
theorem ruF112f : V.uptoD Try.prog (aF 1 2 false) 400 bF (hF 1 1) [0, 8, 16] (keepF 1 2 false) 160 = some (outF 1 1 2 false) := by kernel_rfl
set_option maxRecDepth 1000000 in
theorem ruF112t : V.uptoD Try.prog (aF 1 2 true) 400 bF (hF 1 1) [0, 8, 16] (keepF 1 2 true) 160 = some (outF 1 1 2 true) := by kernel_rfl
set_option maxRecDepth 1000000 in
theorem ruF113f : V.uptoD Try.prog (aF 1 3 false) 400 bF (hF 1 1) [0, 8, 16] (keepF 1 3 false) 160 = some (outF 1 1 3 false) := by kernel_rfl
set_option maxRecDepth 1000000 in
theorem ruF113t : V.uptoD Try.prog (aF 1 3 true) 400 bF (hF 1 1) [0, 8, 16] (keepF 1 3 true) 160 = some (outF 1 1 3 true) := by kernel_rfl
set_option maxRecDepth 1000000 in
theorem ruF114f : V.uptoD Try.prog (aF 1 4 false) 400 bF (hF 1 1) [0, 8, 16] (keepF 1 4 false) 160 = some (outF 1 1 4 false) := by kernel_rfl
set_option maxRecDepth 1000000 in
theorem ruF114t : V.uptoD Try.prog (aF 1 4 true) 400 bF (hF 1 1) [0, 8, 16] (keepF 1 4 true) 160 = some (outF 1 1 4 true) := by kernel_rfl
set_option maxRecDepth 1000000 in
theorem ruF115f : V.uptoD Try.prog (aF 1 5 false) 400 bF (hF 1 1) [0, 8, 16] (keepF 1 5 false) 160 = some (outF 1 1 5 false) := by kernel_rfl
set_option maxRecDepth 1000000 in
theorem ruF115t : V.uptoD Try.prog (aF 1 5 true) 400 bF (hF 1 1) [0, 8, 16] (keepF 1 5 true) 160 = some (outF 1 1 5 true) := by kernel_rfl
set_option maxRecDepth 1000000 in
theorem ruF120f : V.uptoD Try.prog (aF 2 0 false) 400 bF (hF 1 2) [0, 8, 16] (keepF 2 0 false) 160 = some (outF 1 2 0 false) := by kernel_rfl
set_option maxRecDepth 1000000 in
theorem ruF120t : V.uptoD Try.prog (aF 2 0 true) 400 bF (hF 1 2) [0, 8, 16] (keepF 2 0 true) 160 = some (outF 1 2 0 true) := by kernel_rfl
set_option maxRecDepth 1000000 in
theorem ruF121f : V.uptoD Try.prog (aF 2 1 false) 400 bF (hF 1 2) [0, 8, 16] (keepF 2 1 false) 160 = some (outF 1 2 1 false) := by kernel_rfl
set_option maxRecDepth 1000000 in
theorem ruF121t : V.uptoD Try.prog (aF 2 1 true) 400 bF (hF 1 2) [0, 8, 16] (keepF 2 1 true) 160 = some (outF 1 2 1 true) := by kernel_rfl
set_option maxRecDepth 1000000 in
theorem ruF122f : V.uptoD Try.prog (aF 2 2 false) 400 bF (hF 1 2) [0, 8, 16] (keepF 2 2 false) 160 = some (outF 1 2 2 false) := by kernel_rfl
set_option maxRecDepth 1000000 in
theorem ruF122t : V.uptoD Try.prog (aF 2 2 true) 400 bF (hF 1 2) [0, 8, 16] (keepF 2 2 true) 160 = some (outF 1 2 2 true) := by kernel_rfl
set_option maxRecDepth 1000000 in
theorem ruF123f : V.uptoD Try.prog (aF 2 3 false) 400 bF (hF 1 2) [0, 8, 16] (keepF 2 3 false) 160 = some (outF 1 2 3 false) := by kernel_rfl
set_option maxRecDepth 1000000 in
theorem ruF123t : V.uptoD Try.prog (aF 2 3 true) 400 bF (hF 1 2) [0, 8, 16] (keepF 2 3 true) 160 = some (outF 1 2 3 true) := by kernel_rfl
set_option maxRecDepth 1000000 in
theorem ruF124f : V.uptoD Try.prog (aF 2 4 false) 400 bF (hF 1 2) [0, 8, 16] (keepF 2 4 false) 160 = some (outF 1 2 4 false) := by kernel_rfl
set_option maxRecDepth 1000000 in
theorem ruF124t : V.uptoD Try.prog (aF 2 4 true) 400 bF (hF 1 2) [0, 8, 16] (keepF 2 4 true) 160 = some (outF 1 2 4 true) := by kernel_rfl
set_option maxRecDepth 1000000 in
theorem ruF125f : V.uptoD Try.prog (aF 2 5 false) 400 bF (hF 1 2) [0, 8, 16] (keepF 2 5 false) 160 = some (outF 1 2 5 false) := by kernel_rfl
set_option maxRecDepth 1000000 in
theorem ruF125t : V.uptoD Try.prog (aF 2 5 true) 400 bF (hF 1 2) [0, 8, 16] (keepF 2 5 true) 160 = some (outF 1 2 5 true) := by kernel_rfl
set_option maxRecDepth 1000000 in
theorem ruF130f : V.uptoD Try.prog (aF 3 0 false) 400 bF (hF 1 3) [0, 8, 16] (keepF 3 0 false) 160 = some (outF 1 3 0 false) := by kernel_rfl
set_option maxRecDepth 1000000 in
theorem ruF130t : V.uptoD Try.prog (aF 3 0 true) 400 bF (hF 1 3) [0, 8, 16] (keepF 3 0 true) 160 = some (outF 1 3 0 true) := by kernel_rfl
set_option maxRecDepth 1000000 in
theorem ruF131f : V.uptoD Try.prog (aF 3 1 false) 400 bF (hF 1 3) [0, 8, 16] (keepF 3 1 false) 160 = some (outF 1 3 1 false) := by kernel_rfl
set_option maxRecDepth 1000000 in
theorem ruF131t : V.uptoD Try.prog (aF 3 1 true) 400 bF (hF 1 3) [0, 8, 16] (keepF 3 1 true) 160 = some (outF 1 3 1 true) := by kernel_rfl
set_option maxRecDepth 1000000 in
theorem ruF132f : V.uptoD Try.prog (aF 3 2 false) 400 bF (hF 1 3) [0, 8, 16] (keepF 3 2 false) 160 = some (outF 1 3 2 false) := by kernel_rfl
set_option maxRecDepth 1000000 in
theorem ruF132t : V.uptoD Try.prog (aF 3 2 true) 400 bF (hF 1 3) [0, 8, 16] (keepF 3 2 true) 160 = some (outF 1 3 2 true) := by kernel_rfl
set_option maxRecDepth 1000000 in
theorem ruF133f : V.uptoD Try.prog (aF 3 3 false) 400 bF (hF 1 3) [0, 8, 16] (keepF 3 3 false) 160 = some (outF 1 3 3 false) := by kernel_rfl
set_option maxRecDepth 1000000 in
theorem ruF133t : V.uptoD Try.prog (aF 3 3 true) 400 bF (hF 1 3) [0, 8, 16] (keepF 3 3 true) 160 = some (outF 1 3 3 true) := by kernel_rfl
set_option maxRecDepth 1000000 in
theorem ruF134f : V.uptoD Try.prog (aF 3 4 false) 400 bF (hF 1 3) [0, 8, 16] (keepF 3 4 false) 160 = some (outF 1 3 4 false) := by kernel_rfl
set_option maxRecDepth 1000000 in
theorem ruF134t : V.uptoD Try.prog (aF 3 4 true) 400 bF (hF 1 3) [0, 8, 16] (keepF 3 4 true) 160 = some (outF 1 3 4 true) := by kernel_rfl
set_option maxRecDepth 1000000 in
theorem ruF135f : V.uptoD Try.prog (aF 3 5 false) 400 bF (hF 1 3) [0, 8, 16] (keepF 3 5 false) 160 = some (outF 1 3 5 false) := by kernel_rfl
set_option maxRecDepth 1000000 in
theorem ruF135t : V.uptoD Try.prog (aF 3 5 true) 400 bF (hF 1 3) [0, 8, 16] (keepF 3 5 true) 160 = some (outF 1 3 5 true) := by kernel_rfl
set_option maxRecDepth 1000000 in
theorem ruF140f : V.uptoD Try.prog (aF 4 0 false) 400 bF (hF 1 4) [0, 8, 16] (keepF 4 0 false) 160 = some (outF 1 4 0 false) := by kernel_rfl
set_option maxRecDepth 1000000 in
theorem ruF140t : V.uptoD Try.prog (aF 4 0 true) 400 bF (hF 1 4) [0, 8, 16] (keepF 4 0 true) 160 = some (outF 1 4 0 true) := by kernel_rfl
set_option maxRecDepth 1000000 in
theorem ruF141f : V.uptoD Try.prog (aF 4 1 false) 400 bF (hF 1 4) [0, 8, 16] (keepF 4 1 false) 160 = some (outF 1 4 1 false) := by kernel_rfl
set_option maxRecDepth 1000000 in
theorem ruF141t : V.uptoD Try.prog (aF 4 1 true) 400 bF (hF 1 4) [0, 8, 16] (keepF 4 1 true) 160 = some (outF 1 4 1 true) := by kernel_rfl
set_option maxRecDepth 1000000 in
theorem ruF142f : V.uptoD Try.prog (aF 4 2 false) 400 bF (hF 1 4) [0, 8, 16] (keepF 4 2 false) 160 = some (outF 1 4 2 false) := by kernel_rfl
set_option maxRecDepth 1000000 in
theorem ruF142t : V.uptoD Try.prog (aF 4 2 true) 400 bF (hF 1 4) [0, 8, 16] (keepF 4 2 true) 160 = some (outF 1 4 2 true) := by kernel_rfl
set_option maxRecDepth 1000000 in
theorem ruF143f : V.uptoD Try.prog (aF 4 3 false) 400 bF (hF 1 4) [0, 8, 16] (keepF 4 3 false) 160 = some (outF 1 4 3 false) := by kernel_rfl
set_option maxRecDepth 1000000 in
theorem ruF143t : V.uptoD Try.prog (aF 4 3 true) 400 bF (hF 1 4) [0, 8, 16] (keepF 4 3 true) 160 = some (outF 1 4 3 true) := by kernel_rfl
set_option maxRecDepth 1000000 in
theorem ruF144f : V.uptoD Try.prog (aF 4 4 false) 400 bF (hF 1 4) [0, 8, 16] (keepF 4 4 false) 160 = some (outF 1 4 4 false) := by kernel_rfl
set_option maxRecDepth 1000000 in
theorem ruF144t : V.uptoD Try.prog (aF 4 4 true) 400 bF (hF 1 4) [0, 8, 16] (keepF 4 4 true) 160 = some (outF 1 4 4 true) := by kernel_rfl
set_option maxRecDepth 1000000 in
theorem ruF145f : V.uptoD Try.prog (aF 4 5 false) 400 bF (hF 1 4) [0, 8, 16] (keepF 4 5 false) 160 = some (outF 1 4 5 false) := by kernel_rfl
set_option maxRecDepth 1000000 in
theorem ruF145t : V.uptoD Try.prog (aF 4 5 true) 400 bF (hF 1 4) [0, 8, 16] (keepF 4 5 true) 160 = some (outF 1 4 5 true) := by kernel_rfl
set_option maxRecDepth 1000000 in
theorem ruF200f : V.uptoD Try.prog (aF 0 0 false) 400 bF (hF 2 0) [0, 8, 16] (keepF 0 0 false) 160 = some (outF 2 0 0 false) := by kernel_rfl
set_option maxRecDepth 1000000 in
theorem ruF201f : V.uptoD Try.prog (aF 0 1 false) 400 bF (hF 2 0) [0, 8, 16] (keepF 0 1 false) 160 = some (outF 2 0 1 false) := by kernel_rfl
set_option maxRecDepth 1000000 in
theorem ruF202f : V.uptoD Try.prog (aF 0 2 false) 400 bF (hF 2 0) [0, 8, 16] (keepF 0 2 false) 160 = some (outF 2 0 2 false) := by kernel_rfl
set_option maxRecDepth 1000000 in
theorem ruF203f : V.uptoD Try.prog (aF 0 3 false) 400 bF (hF 2 0) [0, 8, 16] (keepF 0 3 false) 160 = some (outF 2 0 3 false) := by kernel_rfl
set_option maxRecDepth 1000000 in
theorem ruF204f : V.uptoD Try.prog (aF 0 4 false) 400 bF (hF 2 0) [0, 8, 16] (keepF 0 4 false) 160 = some (outF 2 0 4 false) := by kernel_rfl
set_option maxRecDepth 1000000 in
theorem ruF205f : V.uptoD Try.prog (aF 0 5 false) 400 bF (hF 2 0) [0, 8, 16] (keepF 0 5 false) 160 = some (outF 2 0 5 false) := by kernel_rfl
set_option maxRecDepth 1000000 in
theorem ruF210f : V.uptoD Try.prog (aF 1 0 false) 400 bF (hF 2 1) [0, 8, 16] (keepF 1 0 false) 160 = some (outF 2 1 0 false) := by kernel_rfl
set_option maxRecDepth 1000000 in
theorem ruF210t : V.uptoD Try.prog (aF 1 0 true) 400 bF (hF 2 1) [0, 8, 16] (keepF 1 0 true) 160 = some (outF 2 1 0 true) := by kernel_rfl
set_option maxRecDepth 1000000 in
theorem ruF211f : V.uptoD Try.prog (aF 1 1 false) 400 bF (hF 2 1) [0, 8, 16] (keepF 1 1 false) 160 = some (outF 2 1 1 false) := by kernel_rfl
set_option maxRecDepth 1000000 in
theorem ruF211t : V.uptoD Try.prog (aF 1 1 true) 400 bF (hF 2 1) [0, 8, 16] (keepF 1 1 true) 160 = some (outF 2 1 1 true) := by kernel_rfl
set_option maxRecDepth 1000000 in
theorem ruF212f : V.uptoD Try.prog (aF 1 2 false) 400 bF (hF 2 1) [0, 8, 16] (keepF 1 2 false) 160 = some (outF 2 1 2 false) := by kernel_rfl
set_option maxRecDepth 1000000 in
theorem ruF212t : V.uptoD Try.prog (aF 1 2 true) 400 bF (hF 2 1) [0, 8, 16] (keepF 1 2 true) 160 = some (outF 2 1 2 true) := by kernel_rfl
set_option maxRecDepth 1000000 in
theorem ruF213f : V.uptoD Try.prog (aF 1 3 false) 400 bF (hF 2 1) [0, 8, 16] (keepF 1 3 false) 160 = some (outF 2 1 3 false) := by kernel_rfl
set_option maxRecDepth 1000000 in
theorem ruF213t : V.uptoD Try.prog (aF 1 3 true) 400 bF (hF 2 1) [0, 8, 16] (keepF 1 3 true) 160 = some (outF 2 1 3 true) := by kernel_rfl
set_option maxRecDepth 1000000 in
theorem ruF214f : V.uptoD Try.prog (aF 1 4 false) 400 bF (hF 2 1) [0, 8, 16] (keepF 1 4 false) 160 = some (outF 2 1 4 false) := by kernel_rfl
set_option maxRecDepth 1000000 in
theorem ruF214t : V.uptoD Try.prog (aF 1 4 true) 400 bF (hF 2 1) [0, 8, 16] (keepF 1 4 true) 160 = some (outF 2 1 4 true) := by kernel_rfl
set_option maxRecDepth 1000000 in
theorem ruF215f : V.uptoD Try.prog (aF 1 5 false) 400 bF (hF 2 1) [0, 8, 16] (keepF 1 5 false) 160 = some (outF 2 1 5 false) := by kernel_rfl
set_option maxRecDepth 1000000 in
theorem ruF215t : V.uptoD Try.prog (aF 1 5 true) 400 bF (hF 2 1) [0, 8, 16] (keepF 1 5 true) 160 = some (outF 2 1 5 true) := by kernel_rfl
set_option maxRecDepth 1000000 in
theorem ruF220f : V.uptoD Try.prog (aF 2 0 false) 400 bF (hF 2 2) [0, 8, 16] (keepF 2 0 false) 160 = some (outF 2 2 0 false) := by kernel_rfl
set_option maxRecDepth 1000000 in
theorem ruF220t : V.uptoD Try.prog (aF 2 0 true) 400 bF (hF 2 2) [0, 8, 16] (keepF 2 0 true) 160 = some (outF 2 2 0 true) := by kernel_rfl
set_option maxRecDepth 1000000 in
theorem ruF221f : V.uptoD Try.prog (aF 2 1 false) 400 bF (hF 2 2) [0, 8, 16] (keepF 2 1 false) 160 = some (outF 2 2 1 false) := by kernel_rfl
set_option maxRecDepth 1000000 in
theorem ruF221t : V.uptoD Try.prog (aF 2 1 true) 400 bF (hF 2 2) [0, 8, 16] (keepF 2 1 true) 160 = some (outF 2 2 1 true) := by kernel_rfl
set_option maxRecDepth 1000000 in
theorem ruF222f : V.uptoD Try.prog (aF 2 2 false) 400 bF (hF 2 2) [0, 8, 16] (keepF 2 2 false) 160 = some (outF 2 2 2 false) := by kernel_rfl
set_option maxRecDepth 1000000 in
theorem ruF222t : V.uptoD Try.prog (aF 2 2 true) 400 bF (hF 2 2) [0, 8, 16] (keepF 2 2 true) 160 = some (outF 2 2 2 true) := by kernel_rfl
set_option maxRecDepth 1000000 in
theorem ruF223f : V.uptoD Try.prog (aF 2 3 false) 400 bF (hF 2 2) [0, 8, 16] (keepF 2 3 false) 160 = some (outF 2 2 3 false) := by kernel_rfl
set_option maxRecDepth 1000000 in
theorem ruF223t : V.uptoD Try.prog (aF 2 3 true) 400 bF (hF 2 2) [0, 8, 16] (keepF 2 3 true) 160 = some (outF 2 2 3 true) := by kernel_rfl
set_option maxRecDepth 1000000 in
theorem ruF224f : V.uptoD Try.prog (aF 2 4 false) 400 bF (hF 2 2) [0, 8, 16] (keepF 2 4 false) 160 = some (outF 2 2 4 false) := by kernel_rfl
set_option maxRecDepth 1000000 in
theorem ruF224t : V.uptoD Try.prog (aF 2 4 true) 400 bF (hF 2 2) [0, 8, 16] (keepF 2 4 true) 160 = some (outF 2 2 4 true) := by kernel_rfl
set_option maxRecDepth 1000000 in
theorem ruF225f : V.uptoD Try.prog (aF 2 5 false) 400 bF (hF 2 2) [0, 8, 16] (keepF 2 5 false) 160 = some (outF 2 2 5 false) := by kernel_rfl
set_option maxRecDepth 1000000 in
theorem ruF225t : V.uptoD Try.prog (aF 2 5 true) 400 bF (hF 2 2) [0, 8, 16] (keepF 2 5 true) 160 = some (outF 2 2 5 true) := by kernel_rfl
set_option maxRecDepth 1000000 in
theorem ruF230f : V.uptoD Try.prog (aF 3 0 false) 400 bF (hF 2 3) [0, 8, 16] (keepF 3 0 false) 160 = some (outF 2 3 0 false) := by kernel_rfl
set_option maxRecDepth 1000000 in
theorem ruF230t : V.uptoD Try.prog (aF 3 0 true) 400 bF (hF 2 3) [0, 8, 16] (keepF 3 0 true) 160 = some (outF 2 3 0 true) := by kernel_rfl
set_option maxRecDepth 1000000 in
theorem ruF231f : V.uptoD Try.prog (aF 3 1 false) 400 bF (hF 2 3) [0, 8, 16] (keepF 3 1 false) 160 = some (outF 2 3 1 false) := by kernel_rfl
set_option maxRecDepth 1000000 in
theorem ruF231t : V.uptoD Try.prog (aF 3 1 true) 400 bF (hF 2 3) [0, 8, 16] (keepF 3 1 true) 160 = some (outF 2 3 1 true) := by kernel_rfl
set_option maxRecDepth 1000000 in
theorem ruF232f : V.uptoD Try.prog (aF 3 2 false) 400 bF (hF 2 3) [0, 8, 16] (keepF 3 2 false) 160 = some (outF 2 3 2 false) := by kernel_rfl
set_option maxRecDepth 1000000 in
theorem ruF232t : V.uptoD Try.prog (aF 3 2 true) 400 bF (hF 2 3) [0, 8, 16] (keepF 3 2 true) 160 = some (outF 2 3 2 true) := by kernel_rfl
set_option maxRecDepth 1000000 in
theorem ruF233f : V.uptoD Try.prog (aF 3 3 false) 400 bF (hF 2 3) [0, 8, 16] (keepF 3 3 false) 160 = some (outF 2 3 3 false) := by kernel_rfl
set_option maxRecDepth 1000000 in
theorem ruF233t : V.uptoD Try.prog (aF 3 3 true) 400 bF (hF 2 3) [0, 8, 16] (keepF 3 3 true) 160 = some (outF 2 3 3 true) := by kernel_rfl
set_option maxRecDepth 1000000 in
theorem ruF234f : V.uptoD Try.prog (aF 3 4 false) 400 bF (hF 2 3) [0, 8, 16] (keepF 3 4 false) 160 = some (outF 2 3 4 false) := by kernel_rfl
set_option maxRecDepth 1000000 in
theorem ruF234t : V.uptoD Try.prog (aF 3 4 true) 400 bF (hF 2 3) [0, 8, 16] (keepF 3 4 true) 160 = some (outF 2 3 4 true) := by kernel_rfl
set_option maxRecDepth 1000000 in
theorem ruF235f : V.uptoD Try.prog (aF 3 5 false) 400 bF (hF 2 3) [0, 8, 16] (keepF 3 5 false) 160 = some (outF 2 3 5 false) := by kernel_rfl
set_option maxRecDepth 1000000 in
theorem ruF235t : V.uptoD Try.prog (aF 3 5 true) 400 bF (hF 2 3) [0, 8, 16] (keepF 3 5 true) 160 = some (outF 2 3 5 true) := by kernel_rfl
set_option maxRecDepth 1000000 in
theorem ruF240f : V.uptoD Try.prog (aF 4 0 false) 400 bF (hF 2 4) [0, 8, 16] (keepF 4 0 false) 160 = some (outF 2 4 0 false) := by kernel_rfl
set_option maxRecDepth 1000000 in
theorem ruF240t : V.uptoD Try.prog (aF 4 0 true) 400 bF (hF 2 4) [0, 8, 16] (keepF 4 0 true) 160 = some (outF 2 4 0 true) := by kernel_rfl
set_option maxRecDepth 1000000 in
theorem ruF241f : V.uptoD Try.prog (aF 4 1 false) 400 bF (hF 2 4) [0, 8, 16] (keepF 4 1 false) 160 = some (outF 2 4 1 false) := by kernel_rfl
set_option maxRecDepth 1000000 in
theorem ruF241t : V.uptoD Try.prog (aF 4 1 true) 400 bF (hF 2 4) [0, 8, 16] (keepF 4 1 true) 160 = some (outF 2 4 1 true) := by kernel_rfl
set_option maxRecDepth 1000000 in
theorem ruF242f : V.uptoD Try.prog (aF 4 2 false) 400 bF (hF 2 4) [0, 8, 16] (keepF 4 2 false) 160 = some (outF 2 4 2 false) := by kernel_rfl
set_option maxRecDepth 1000000 in
theorem ruF242t : V.uptoD Try.prog (aF 4 2 true) 400 bF (hF 2 4) [0, 8, 16] (keepF 4 2 true) 160 = some (outF 2 4 2 true) := by kernel_rfl
set_option maxRecDepth 1000000 in
theorem ruF243f : V.uptoD Try.prog (aF 4 3 false) 400 bF (hF 2 4) [0, 8, 16] (keepF 4 3 false) 160 = some (outF 2 4 3 false) := by kernel_rfl
set_option maxRecDepth 1000000 in
theorem ruF243t : V.uptoD Try.prog (aF 4 3 true) 400 bF (hF 2 4) [0, 8, 16] (keepF 4 3 true) 160 = some (outF 2 4 3 true) := by kernel_rfl
set_option maxRecDepth 1000000 in
theorem ruF244f : V.uptoD Try.prog (aF 4 4 false) 400 bF (hF 2 4) [0, 8, 16] (keepF 4 4 false) 160 = some (outF 2 4 4 false) := by kernel_rfl
set_option maxRecDepth 1000000 in
theorem ruF244t : V.uptoD Try.prog (aF 4 4 true) 400 bF (hF 2 4) [0, 8, 16] (keepF 4 4 true) 160 = some (outF 2 4 4 true) := by kernel_rfl
set_option maxRecDepth 1000000 in
theorem ruF245f : V.uptoD Try.prog (aF 4 5 false) 400 bF (hF 2 4) [0, 8, 16] (keepF 4 5 false) 160 = some (outF 2 4 5 false) := by kernel_rfl
set_option maxRecDepth 1000000 in
theorem ruF245t : V.uptoD Try.prog (aF 4 5 true) 400 bF (hF 2 4) [0, 8, 16] (keepF 4 5 true) 160 = some (outF 2 4 5 true) := by kernel_rfl
set_option maxRecDepth 1000000 in
theorem ruF300f : V.uptoD Try.prog (aF 0 0 false) 400 bF (hF 3 0) [0, 8, 16] (keepF 0 0 false) 160 = some (outF 3 0 0 false) := by kernel_rfl
set_option maxRecDepth 1000000 in
theorem ruF301f : V.uptoD Try.prog (aF 0 1 false) 400 bF (hF 3 0) [0, 8, 16] (keepF 0 1 false) 160 = some (outF 3 0 1 false) := by kernel_rfl
set_option maxRecDepth 1000000 in
theorem ruF302f : V.uptoD Try.prog (aF 0 2 false) 400 bF (hF 3 0) [0, 8, 16] (keepF 0 2 false) 160 = some (outF 3 0 2 false) := by kernel_rfl
set_option maxRecDepth 1000000 in
theorem ruF303f : V.uptoD Try.prog (aF 0 3 false) 400 bF (hF 3 0) [0, 8, 16] (keepF 0 3 false) 160 = some (outF 3 0 3 false) := by kernel_rfl
set_option maxRecDepth 1000000 in
theorem ruF304f : V.uptoD Try.prog (aF 0 4 false) 400 bF (hF 3 0) [0, 8, 16] (keepF 0 4 false) 160 = some (outF 3 0 4 false) := by kernel_rfl
set_option maxRecDepth 1000000 in
theorem ruF305f : V.uptoD Try.prog (aF 0 5 false) 400 bF (hF 3 0) [0, 8, 16] (keepF 0 5 false) 160 = some (outF 3 0 5 false) := by kernel_rfl
set_option maxRecDepth 1000000 in
theorem ruF310f : V.uptoD Try.prog (aF 1 0 false) 400 bF (hF 3 1) [0, 8, 16] (keepF 1 0 false) 160 = some (outF 3 1 0 false) := by kernel_rfl
set_option maxRecDepth 1000000 in
theorem ruF310t : V.uptoD Try.prog (aF 1 0 true) 400 bF (hF 3 1) [0, 8, 16] (keepF 1 0 true) 160 = some (outF 3 1 0 true) := by kernel_rfl
set_option maxRecDepth 1000000 in
theorem ruF311f : V.uptoD Try.prog (aF 1 1 false) 400 bF (hF 3 1) [0, 8, 16] (keepF 1 1 false) 160 = some (outF 3 1 1 false) := by kernel_rfl
set_option maxRecDepth 1000000 in
theorem ruF311t : V.uptoD Try.prog (aF 1 1 true) 400 bF (hF 3 1) [0, 8, 16] (keepF 1 1 true) 160 = some (outF 3 1 1 true) := by kernel_rfl
set_option maxRecDepth 1000000 in
theorem ruF312f : V.uptoD Try.prog (aF 1 2 false) 400 bF (hF 3 1) [0, 8, 16] (keepF 1 2 false) 160 = some (outF 3 1 2 false) := by kernel_rfl
set_option maxRecDepth 1000000 in
theorem ruF312t : V.uptoD Try.prog (aF 1 2 true) 400 bF (hF 3 1) [0, 8, 16] (keepF 1 2 true) 160 = some (outF 3 1 2 true) := by kernel_rfl
set_option maxRecDepth 1000000 in
theorem ruF313f : V.uptoD Try.prog (aF 1 3 false) 400 bF (hF 3 1) [0, 8, 16] (keepF 1 3 false) 160 = some (outF 3 1 3 false) := by kernel_rfl
set_option maxRecDepth 1000000 in
theorem ruF313t : V.uptoD Try.prog (aF 1 3 true) 400 bF (hF 3 1) [0, 8, 16] (keepF 1 3 true) 160 = some (outF 3 1 3 true) := by kernel_rfl
set_option maxRecDepth 1000000 in
theorem ruF314f : V.uptoD Try.prog (aF 1 4 false) 400 bF (hF 3 1) [0, 8, 16] (keepF 1 4 false) 160 = some (outF 3 1 4 false) := by kernel_rfl
set_option maxRecDepth 1000000 in
theorem ruF314t : V.uptoD Try.prog (aF 1 4 true) 400 bF (hF 3 1) [0, 8, 16] (keepF 1 4 true) 160 = some (outF 3 1 4 true) := by kernel_rfl
set_option maxRecDepth 1000000 in
theorem ruF315f : V.uptoD Try.prog (aF 1 5 false) 400 bF (hF 3 1) [0, 8, 16] (keepF 1 5 false) 160 = some (outF 3 1 5 false) := by kernel_rfl
set_option maxRecDepth 1000000 in
theorem ruF315t : V.uptoD Try.prog (aF 1 5 true) 400 bF (hF 3 1) [0, 8, 16] (keepF 1 5 true) 160 = some (outF 3 1 5 true) := by kernel_rfl
set_option maxRecDepth 1000000 in
theorem ruF320f : V.uptoD Try.prog (aF 2 0 false) 400 bF (hF 3 2) [0, 8, 16] (keepF 2 0 false) 160 = some (outF 3 2 0 false) := by kernel_rfl
set_option maxRecDepth 1000000 in
theorem ruF320t : V.uptoD Try.prog (aF 2 0 true) 400 bF (hF 3 2) [0, 8, 16] (keepF 2 0 true) 160 = some (outF 3 2 0 true) := by kernel_rfl
set_option maxRecDepth 1000000 in
theorem ruF321f : V.uptoD Try.prog (aF 2 1 false) 400 bF (hF 3 2) [0, 8, 16] (keepF 2 1 false) 160 = some (outF 3 2 1 false) := by kernel_rfl
set_option maxRecDepth 1000000 in
theorem ruF321t : V.uptoD Try.prog (aF 2 1 true) 400 bF (hF 3 2) [0, 8, 16] (keepF 2 1 true) 160 = some (outF 3 2 1 true) := by kernel_rfl
set_option maxRecDepth 1000000 in
theorem ruF322f : V.uptoD Try.prog (aF 2 2 false) 400 bF (hF 3 2) [0, 8, 16] (keepF 2 2 false) 160 = some (outF 3 2 2 false) := by kernel_rfl
set_option maxRecDepth 1000000 in
theorem ruF322t : V.uptoD Try.prog (aF 2 2 true) 400 bF (hF 3 2) [0, 8, 16] (keepF 2 2 true) 160 = some (outF 3 2 2 true) := by kernel_rfl
set_option maxRecDepth 1000000 in
theorem ruF323f : V.uptoD Try.prog (aF 2 3 false) 400 bF (hF 3 2) [0, 8, 16] (keepF 2 3 false) 160 = some (outF 3 2 3 false) := by kernel_rfl
set_option maxRecDepth 1000000 in
theorem ruF323t : V.uptoD Try.prog (aF 2 3 true) 400 bF (hF 3 2) [0, 8, 16] (keepF 2 3 true) 160 = some (outF 3 2 3 true) := by kernel_rfl
set_option maxRecDepth 1000000 in
theorem ruF324f : V.uptoD Try.prog (aF 2 4 false) 400 bF (hF 3 2) [0, 8, 16] (keepF 2 4 false) 160 = some (outF 3 2 4 false) := by kernel_rfl
set_option maxRecDepth 1000000 in
theorem ruF324t : V.uptoD Try.prog (aF 2 4 true) 400 bF (hF 3 2) [0, 8, 16] (keepF 2 4 true) 160 = some (outF 3 2 4 true) := by kernel_rfl
set_option maxRecDepth 1000000 in
theorem ruF325f : V.uptoD Try.prog (aF 2 5 false) 400 bF (hF 3 2) [0, 8, 16] (keepF 2 5 false) 160 = some (outF 3 2 5 false) := by kernel_rfl
set_option maxRecDepth 1000000 in
theorem ruF325t : V.uptoD Try.prog (aF 2 5 true) 400 bF (hF 3 2) [0, 8, 16] (keepF 2 5 true) 160 = some (outF 3 2 5 true) := by kernel_rfl
set_option maxRecDepth 1000000 in
theorem ruF330f : V.uptoD Try.prog (aF 3 0 false) 400 bF (hF 3 3) [0, 8, 16] (keepF 3 0 false) 160 = some (outF 3 3 0 false) := by kernel_rfl
set_option maxRecDepth 1000000 in
theorem ruF330t : V.uptoD Try.prog (aF 3 0 true) 400 bF (hF 3 3) [0, 8, 16] (keepF 3 0 true) 160 = some (outF 3 3 0 true) := by kernel_rfl
set_option maxRecDepth 1000000 in
theorem ruF331f : V.uptoD Try.prog (aF 3 1 false) 400 bF (hF 3 3) [0, 8, 16] (keepF 3 1 false) 160 = some (outF 3 3 1 false) := by kernel_rfl
set_option maxRecDepth 1000000 in
theorem ruF331t : V.uptoD Try.prog (aF 3 1 true) 400 bF (hF 3 3) [0, 8, 16] (keepF 3 1 true) 160 = some (outF 3 3 1 true) := by kernel_rfl
set_option maxRecDepth 1000000 in
theorem ruF332f : V.uptoD Try.prog (aF 3 2 false) 400 bF (hF 3 3) [0, 8, 16] (keepF 3 2 false) 160 = some (outF 3 3 2 false) := by kernel_rfl
set_option maxRecDepth 1000000 in
theorem ruF332t : V.uptoD Try.prog (aF 3 2 true) 400 bF (hF 3 3) [0, 8, 16] (keepF 3 2 true) 160 = some (outF 3 3 2 true) := by kernel_rfl
set_option maxRecDepth 1000000 in
theorem ruF333f : V.uptoD Try.prog (aF 3 3 false) 400 bF (hF 3 3) [0, 8, 16] (keepF 3 3 false) 160 = some (outF 3 3 3 false) := by kernel_rfl
set_option maxRecDepth 1000000 in
theorem ruF333t : V.uptoD Try.prog (aF 3 3 true) 400 bF (hF 3 3) [0, 8, 16] (keepF 3 3 true) 160 = some (outF 3 3 3 true) := by kernel_rfl
set_option maxRecDepth 1000000 in
theorem ruF334f : V.uptoD Try.prog (aF 3 4 false) 400 bF (hF 3 3) [0, 8, 16] (keepF 3 4 false) 160 = some (outF 3 3 4 false) := by kernel_rfl
set_option maxRecDepth 1000000 in
theorem ruF334t : V.uptoD Try.prog (aF 3 4 true) 400 bF (hF 3 3) [0, 8, 16] (keepF 3 4 true) 160 = some (outF 3 3 4 true) := by kernel_rfl
set_option maxRecDepth 1000000 in
theorem ruF335f : V.uptoD Try.prog (aF 3 5 false) 400 bF (hF 3 3) [0, 8, 16] (keepF 3 5 false) 160 = some (outF 3 3 5 false) := by kernel_rfl
set_option maxRecDepth 1000000 in
theorem ruF335t : V.uptoD Try.prog (aF 3 5 true) 400 bF (hF 3 3) [0, 8, 16] (keepF 3 5 true) 160 = some (outF 3 3 5 true) := by kernel_rfl
set_option maxRecDepth 1000000 in
theorem ruF340f : V.uptoD Try.prog (aF 4 0 false) 400 bF (hF 3 4) [0, 8, 16] (keepF 4 0 false) 160 = some (outF 3 4 0 false) := by kernel_rfl
set_option maxRecDepth 1000000 in
theorem ruF340t : V.uptoD Try.prog (aF 4 0 true) 400 bF (hF 3 4) [0, 8, 16] (keepF 4 0 true) 160 = some (outF 3 4 0 true) := by kernel_rfl
set_option maxRecDepth 1000000 in
theorem ruF341f : V.uptoD Try.prog (aF 4 1 false) 400 bF (hF 3 4) [0, 8, 16] (keepF 4 1 false) 160 = some (outF 3 4 1 false) := by kernel_rfl
set_option maxRecDepth 1000000 in
theorem ruF341t : V.uptoD Try.prog (aF 4 1 true) 400 bF (hF 3 4) [0, 8, 16] (keepF 4 1 true) 160 = some (outF 3 4 1 true) := by kernel_rfl
set_option maxRecDepth 1000000 in
theorem ruF342f : V.uptoD Try.prog (aF 4 2 false) 400 bF (hF 3 4) [0, 8, 16] (keepF 4 2 false) 160 = some (outF 3 4 2 false) := by kernel_rfl
set_option maxRecDepth 1000000 in
theorem ruF342t : V.uptoD Try.prog (aF 4 2 true) 400 bF (hF 3 4) [0, 8, 16] (keepF 4 2 true) 160 = some (outF 3 4 2 true) := by kernel_rfl
set_option maxRecDepth 1000000 in
theorem ruF343f : V.uptoD Try.prog (aF 4 3 false) 400 bF (hF 3 4) [0, 8, 16] (keepF 4 3 false) 160 = some (outF 3 4 3 false) := by kernel_rfl
set_option maxRecDepth 1000000 in
theorem ruF343t : V.uptoD Try.prog (aF 4 3 true) 400 bF (hF 3 4) [0, 8, 16] (keepF 4 3 true) 160 = some (outF 3 4 3 true) := by kernel_rfl
set_option maxRecDepth 1000000 in
theorem ruF344f : V.uptoD Try.prog (aF 4 4 false) 400 bF (hF 3 4) [0, 8, 16] (keepF 4 4 false) 160 = some (outF 3 4 4 false) := by kernel_rfl
set_option maxRecDepth 1000000 in
theorem ruF344t : V.uptoD Try.prog (aF 4 4 true) 400 bF (hF 3 4) [0, 8, 16] (keepF 4 4 true) 160 = some (outF 3 4 4 true) := by kernel_rfl
set_option maxRecDepth 1000000 in
theorem ruF345f : V.uptoD Try.prog (aF 4 5 false) 400 bF (hF 3 4) [0, 8, 16] (keepF 4 5 false) 160 = some (outF 3 4 5 false) := by kernel_rfl
set_option maxRecDepth 1000000 in
theorem ruF345t : V.uptoD Try.prog (aF 4 5 true) 400 bF (hF 3 4) [0, 8, 16] (keepF 4 5 true) 160 = some (outF 3 4 5 true) := by kernel_rfl
theorem ruF (q i c : Nat) (g : Bool) (hq : q < 4) (hi : i < 5) (hc : c < 6) (hg : i = 0 → g = false) : V.uptoD Try.prog (aF i c g) 400 bF (hF q i) [0, 8, 16] (keepF i c g) 160 = some (outF q i c g) := by
  have h1 : q = 0 ∨ q = 1 ∨ q = 2 ∨ q = 3 := by omega
  have h2 : i = 0 ∨ i = 1 ∨ i = 2 ∨ i = 3 ∨ i = 4 := by omega
  have h3 : c = 0 ∨ c = 1 ∨ c = 2 ∨ c = 3 ∨ c = 4 ∨ c = 5 := by omega
  rcases h1 with rfl | rfl | rfl | rfl <;> rcases h2 with rfl | rfl | rfl | rfl | rfl <;> rcases h3 with rfl | rfl | rfl | rfl | rfl | rfl <;> cases g
  · exact ruF000f
  · exact absurd (hg rfl) (by simp)
  · exact ruF001f
  · exact absurd (hg rfl) (by simp)
  · exact ruF002f
  · exact absurd (hg rfl) (by simp)
  · exact ruF003f
  · exact absurd (hg rfl) (by simp)
  · exact ruF004f
  · exact absurd (hg rfl) (by simp)
  · exact ruF005f
  · exact absurd (hg rfl) (by simp)
  · exact ruF010f
  · exact ruF010t
  · exact ruF011f
  · exact ruF011t
  · exact ruF012f
  · exact ruF012t
  · exact ruF013f
  · exact ruF013t
  · exact ruF014f
  · exact ruF014t
  · exact ruF015f
  · exact ruF015t
  · exact ruF020f
  · exact ruF020t
  · exact ruF021f
  · exact ruF021t
  · exact ruF022f
  · exact ruF022t
  · exact ruF023f
  · exact ruF023t
  · exact ruF024f
  · exact ruF024t
  · exact ruF025f
  · exact ruF025t
  · exact ruF030f
  · exact ruF030t
  · exact ruF031f
  · exact ruF031t
  · exact ruF032f
  · exact ruF032t
  · exact ruF033f
  · exact ruF033t
  · exact ruF034f
  · exact ruF034t
  · exact ruF035f
  · exact ruF035t
  · exact ruF040f
  · exact ruF040t
  · exact ruF041f
  · exact ruF041t
  · exact ruF042f
  · exact ruF042t
  · exact ruF043f
  · exact ruF043t
  · exact ruF044f
  · exact ruF044t
  · exact ruF045f
  · exact ruF045t
  · exact ruF100f
  · exact absurd (hg rfl) (by simp)
  · exact ruF101f
  · exact absurd (hg rfl) (by simp)
  · exact ruF102f
  · exact absurd (hg rfl) (by simp)
  · exact ruF103f
  · exact absurd (hg rfl) (by simp)
  · exact ruF104f
  · exact absurd (hg rfl) (by simp)
  · exact ruF105f
  · exact absurd (hg rfl) (by simp)
  · exact ruF110f
  · exact ruF110t
  · exact ruF111f
  · exact ruF111t
  · exact ruF112f
  · exact ruF112t
  · exact ruF113f
  · exact ruF113t
  · exact ruF114f
  · exact ruF114t
  · exact ruF115f
  · exact ruF115t
  · exact ruF120f
  · exact ruF120t
  · exact ruF121f
  · exact ruF121t
  · exact ruF122f
  · exact ruF122t
  · exact ruF123f
  · exact ruF123t
  · exact ruF124f
  · exact ruF124t
  · exact ruF125f
  · exact ruF125t
  · exact ruF130f
  · exact ruF130t
  · exact ruF131f
  · exact ruF131t
  · exact ruF132f
  · exact ruF132t
  · exact ruF133f
  · exact ruF133t
  · exact ruF134f
  · exact ruF134t
  · exact ruF135f
  · exact ruF135t
  · exact ruF140f
  · exact ruF140t
  · exact ruF141f
  · exact ruF141t
  · exact ruF142f
  · exact ruF142t
  · exact ruF143f
  · exact ruF143t
  · exact ruF144f
  · exact ruF144t
  · exact ruF145f
  · exact ruF145t
  · exact ruF200f
  · exact absurd (hg rfl) (by simp)
  · exact ruF201f
  · exact absurd (hg rfl) (by simp)
  · exact ruF202f
  · exact absurd (hg rfl) (by simp)
  · exact ruF203f
  · exact absurd (hg rfl) (by simp)
  · exact ruF204f
  · exact absurd (hg rfl) (by simp)
  · exact ruF205f
  · exact absurd (hg rfl) (by simp)
  · exact ruF210f
  · exact ruF210t
  · exact ruF211f
  · exact ruF211t
  · exact ruF212f
  · exact ruF212t
  · exact ruF213f
  · exact ruF213t
  · exact ruF214f
  · exact ruF214t
  · exact ruF215f
  · exact ruF215t
  · exact ruF220f
  · exact ruF220t
  · exact ruF221f
  · exact ruF221t
  · exact ruF222f
  · exact ruF222t
  · exact ruF223f
  · exact ruF223t
  · exact ruF224f
  · exact ruF224t
  · exact ruF225f
  · exact ruF225t
  · exact ruF230f
  · exact ruF230t
  · exact ruF231f
  · exact ruF231t
  · exact ruF232f
  · exact ruF232t
  · exact ruF233f
  · exact ruF233t
  · exact ruF234f
  · exact ruF234t
  · exact ruF235f
  · exact ruF235t
  · exact ruF240f
  · exact ruF240t
  · exact ruF241f
  · exact ruF241t
  · exact ruF242f
  · exact ruF242t
  · exact ruF243f
  · exact ruF243t
  · exact ruF244f
  · exact ruF244t
  · exact ruF245f
  · exact ruF245t
  · exact ruF300f
  · exact absurd (hg rfl) (by simp)
  · exact ruF301f
  · exact absurd (hg rfl) (by simp)
  · exact ruF302f
  · exact absurd (hg rfl) (by simp)
  · exact ruF303f
  · exact absurd (hg rfl) (by simp)
  · exact ruF304f
  · exact absurd (hg rfl) (by simp)
  · exact ruF305f
  · exact absurd (hg rfl) (by simp)
  · exact ruF310f
  · exact ruF310t
  · exact ruF311f
  · exact ruF311t
  · exact ruF312f
  · exact ruF312t
  · exact ruF313f
  · exact ruF313t
  · exact ruF314f
  · exact ruF314t
  · exact ruF315f
  · exact ruF315t
  · exact ruF320f
  · exact ruF320t
  · exact ruF321f
  · exact ruF321t
  · exact ruF322f
  · exact ruF322t
  · exact ruF323f
  · exact ruF323t
  · exact ruF324f
  · exact ruF324t
  · exact ruF325f
  · exact ruF325t
  · exact ruF330f
  · exact ruF330t
  · exact ruF331f
  · exact ruF331t
  · exact ruF332f
  · exact ruF332t
  · exact ruF333f
  · exact ruF333t
  · exact ruF334f
  · exact ruF334t
  · exact ruF335f
  · exact ruF335t
  · exact ruF340f
  · exact ruF340t
  · exact ruF341f
  · exact ruF341t
  · exact ruF342f
  · exact ruF342t
  · exact ruF343f
  · exact ruF343t
  · exact ruF344f
  · exact ruF344t
  · exact ruF345f
  · exact ruF345t
def fX (i : Nat) : List V.Fact := [.cmp .lss (.int .i64 i) (.sym 4) false]
def aX (i : Nat) : V.An := { an5 with orc := V.orcOf (fX i) }
set_option maxRecDepth 1000000 in
theorem ruX00 : V.uptoD Try.prog (aX 0) 400 bF (hF 0 0) [0, 8, 16] kF 160 = some (.exit 0, hF 0 0) := by kernel_rfl
set_option maxRecDepth 1000000 in
theorem ruX01 : V.uptoD Try.prog (aX 1) 400 bF (hF 0 1) [0, 8, 16] kF 160 = some (.exit 0, hF 0 1) := by kernel_rfl
set_option maxRecDepth 1000000 in
theorem ruX02 : V.uptoD Try.prog (aX 2) 400 bF (hF 0 2) [0, 8, 16] kF 160 = some (.exit 0, hF 0 2) := by kernel_rfl
set_option maxRecDepth 1000000 in
theorem ruX03 : V.uptoD Try.prog (aX 3) 400 bF (hF 0 3) [0, 8, 16] kF 160 = some (.exit 0, hF 0 3) := by kernel_rfl
set_option maxRecDepth 1000000 in
theorem ruX04 : V.uptoD Try.prog (aX 4) 400 bF (hF 0 4) [0, 8, 16] kF 160 = some (.exit 0, hF 0 4) := by kernel_rfl
set_option maxRecDepth 1000000 in
theorem ruX05 : V.uptoD Try.prog (aX 5) 400 bF (hF 0 5) [0, 8, 16] kF 160 = some (.exit 0, hF 0 5) := by kernel_rfl
set_option maxRecDepth 1000000 in
theorem ruX10 : V.uptoD Try.prog (aX 0) 400 bF (hF 1 0) [0, 8, 16] kF 160 = some (.exit 0, hF 1 0) := by kernel_rfl
set_option maxRecDepth 1000000 in
theorem ruX11 : V.uptoD Try.prog (aX 1) 400 bF (hF 1 1) [0, 8, 16] kF 160 = some (.exit 0, hF 1 1) := by kernel_rfl
set_option maxRecDepth 1000000 in
theorem ruX12 : V.uptoD Try.prog (aX 2) 400 bF (hF 1 2) [0, 8, 16] kF 160 = some (.exit 0, hF 1 2) := by kernel_rfl
set_option maxRecDepth 1000000 in
theorem ruX13 : V.uptoD Try.prog (aX 3) 400 bF (hF 1 3) [0, 8, 16] kF 160 = some (.exit 0, hF 1 3) := by kernel_rfl
set_option maxRecDepth 1000000 in
theorem ruX14 : V.uptoD Try.prog (aX 4) 400 bF (hF 1 4) [0, 8, 16] kF 160 = some (.exit 0, hF 1 4) := by kernel_rfl
set_option maxRecDepth 1000000 in
theorem ruX15 : V.uptoD Try.prog (aX 5) 400 bF (hF 1 5) [0, 8, 16] kF 160 = some (.exit 0, hF 1 5) := by kernel_rfl
set_option maxRecDepth 1000000 in
theorem ruX20 : V.uptoD Try.prog (aX 0) 400 bF (hF 2 0) [0, 8, 16] kF 160 = some (.exit 0, hF 2 0) := by kernel_rfl
set_option maxRecDepth 1000000 in
theorem ruX21 : V.uptoD Try.prog (aX 1) 400 bF (hF 2 1) [0, 8, 16] kF 160 = some (.exit 0, hF 2 1) := by kernel_rfl
set_option maxRecDepth 1000000 in
theorem ruX22 : V.uptoD Try.prog (aX 2) 400 bF (hF 2 2) [0, 8, 16] kF 160 = some (.exit 0, hF 2 2) := by kernel_rfl
set_option maxRecDepth 1000000 in
theorem ruX23 : V.uptoD Try.prog (aX 3) 400 bF (hF 2 3) [0, 8, 16] kF 160 = some (.exit 0, hF 2 3) := by kernel_rfl
set_option maxRecDepth 1000000 in
theorem ruX24 : V.uptoD Try.prog (aX 4) 400 bF (hF 2 4) [0, 8, 16] kF 160 = some (.exit 0, hF 2 4) := by kernel_rfl
set_option maxRecDepth 1000000 in
theorem ruX25 : V.uptoD Try.prog (aX 5) 400 bF (hF 2 5) [0, 8, 16] kF 160 = some (.exit 0, hF 2 5) := by kernel_rfl
set_option maxRecDepth 1000000 in
theorem ruX30 : V.uptoD Try.prog (aX 0) 400 bF (hF 3 0) [0, 8, 16] kF 160 = some (.exit 0, hF 3 0) := by kernel_rfl
set_option maxRecDepth 1000000 in
theorem ruX31 : V.uptoD Try.prog (aX 1) 400 bF (hF 3 1) [0, 8, 16] kF 160 = some (.exit 0, hF 3 1) := by kernel_rfl
set_option maxRecDepth 1000000 in
theorem ruX32 : V.uptoD Try.prog (aX 2) 400 bF (hF 3 2) [0, 8, 16] kF 160 = some (.exit 0, hF 3 2) := by kernel_rfl
set_option maxRecDepth 1000000 in
theorem ruX33 : V.uptoD Try.prog (aX 3) 400 bF (hF 3 3) [0, 8, 16] kF 160 = some (.exit 0, hF 3 3) := by kernel_rfl
set_option maxRecDepth 1000000 in
theorem ruX34 : V.uptoD Try.prog (aX 4) 400 bF (hF 3 4) [0, 8, 16] kF 160 = some (.exit 0, hF 3 4) := by kernel_rfl
set_option maxRecDepth 1000000 in
theorem ruX35 : V.uptoD Try.prog (aX 5) 400 bF (hF 3 5) [0, 8, 16] kF 160 = some (.exit 0, hF 3 5) := by kernel_rfl
theorem ruX (q i : Nat) (hq : q < 4) (hi : i < 6) : V.uptoD Try.prog (aX i) 400 bF (hF q i) [0, 8, 16] kF 160 = some (.exit 0, hF q i) := by
  have h1 : q = 0 ∨ q = 1 ∨ q = 2 ∨ q = 3 := by omega
  have h2 : i = 0 ∨ i = 1 ∨ i = 2 ∨ i = 3 ∨ i = 4 ∨ i = 5 := by omega
  rcases h1 with rfl | rfl | rfl | rfl <;> rcases h2 with rfl | rfl | rfl | rfl | rfl | rfl
  · exact ruX00
  · exact ruX01
  · exact ruX02
  · exact ruX03
  · exact ruX04
  · exact ruX05
  · exact ruX10
  · exact ruX11
  · exact ruX12
  · exact ruX13
  · exact ruX14
  · exact ruX15
  · exact ruX20
  · exact ruX21
  · exact ruX22
  · exact ruX23
  · exact ruX24
  · exact ruX25
  · exact ruX30
  · exact ruX31
  · exact ruX32
  · exact ruX33
  · exact ruX34
  · exact ruX35
/-- the rest: b tells whether what the sort asks for is there -/
def gT : List V.Gact := [.len 24 (.sym 1) (.sym 4)]
def fT (b : Bool) : List V.Fact := [.cmp .eql (.sym 4) (.int .i64 1) b, .cmp .leq (.sym 4) (.int .i64 1) b]
def fTq (q : Nat) (b : Bool) : List V.Fact := if q = 1 then [.cmp .eql (.sym 4) (.int .i64 1) b] else if q = 3 then [.cmp .leq (.sym 4) (.int .i64 1) b] else []
def tT (q : Nat) (b : Bool) : V.Tbl := if q % 2 = 0 then [(11, [([.sym 1, .int .i64 2], [.bool b])])] else []
def aT (q : Nat) (b : Bool) : V.An := { an5 with spec := V.inTbl (tT q b), orc := V.orcOr (V.orcOf (fTq q b)) (V.orcG gT) }
set_option maxRecDepth 1000000 in
theorem ruT0f (i : Nat) : V.uptoD Try.prog (aT 0 false) 400 tF (hF 0 i) [0, 8, 16] kR 160 = some (.ret, FR 0 (.sym 2) (.sym 1) false) := by kernel_rfl
set_option maxRecDepth 1000000 in
theorem ruT0t (i : Nat) : V.uptoD Try.prog (aT 0 true) 400 tF (hF 0 i) [0, 8, 16] kR 160 = some (.ret, FR 0 (.sym 2) (.sym 1) true) := by kernel_rfl
set_option maxRecDepth 1000000 in
theorem ruT1f (i : Nat) : V.uptoD Try.prog (aT 1 false) 400 tF (hF 1 i) [0, 8, 16] kR 160 = some (.ret, FR 1 (.sym 2) (.sym 1) false) := by kernel_rfl
set_option maxRecDepth 1000000 in
theorem ruT1t (i : Nat) : V.uptoD Try.prog (aT 1 true) 400 tF (hF 1 i) [0, 8, 16] kR 160 = some (.ret, FR 1 (.sym 2) (.sym 1) true) := by kernel_rfl
set_option maxRecDepth 1000000 in
theorem ruT2f (i : Nat) : V.uptoD Try.prog (aT 2 false) 400 tF (hF 2 i) [0, 8, 16] kR 160 = some (.ret, FR 2 (.sym 2) (.sym 1) false) := by kernel_rfl
set_option maxRecDepth 1000000 in
theorem ruT2t (i : Nat) : V.uptoD Try.prog (aT 2 true) 400 tF (hF 2 i) [0, 8, 16] kR 160 = some (.ret, FR 2 (.sym 2) (.sym 1) true) := by kernel_rfl
set_option maxRecDepth 1000000 in
theorem ruT3f (i : Nat) : V.uptoD Try.prog (aT 3 false) 400 tF (hF 3 i) [0, 8, 16] kR 160 = some (.ret, FR 3 (.sym 2) (.sym 1) false) := by kernel_rfl
set_option maxRecDepth 1000000 in
theorem ruT3t (i : Nat) : V.uptoD Try.prog (aT 3 true) 400 tF (hF 3 i) [0, 8, 16] kR 160 = some (.ret, FR 3 (.sym 2) (.sym 1) true) := by kernel_rfl
theorem ruT (q i : Nat) (b : Bool) (hq : q < 4) : V.uptoD Try.prog (aT q b) 400 tF (hF q i) [0, 8, 16] kR 160 = some (.ret, FR q (.sym 2) (.sym 1) b) := by
  have h1 : q = 0 ∨ q = 1 ∨ q = 2 ∨ q = 3 := by omega
  rcases h1 with rfl | rfl | rfl | rfl <;> cases b
  · exact ruT0f i
  · exact ruT0t i
  · exact ruT1f i
  · exact ruT1t i
  · exact ruT2f i
  · exact ruT2t i
  · exact ruT3f i
  · exact ruT3t i
def nd : Option (V.X × V.St) → V.St
  | some (_, s) => s
  | none => default
def zF (q : Nat) : V.St := ⟨[s0, xk q, .agg [.int .i64 12, .int .i64 0, mt, .sym 2, .sym 1]].map .dat ++ List.replicate 98 .undef, [], 0⟩
noncomputable def zF1 (q : Nat) : V.St := nd (V.exec Try.prog an5 400 cF0 (zF q))
def gB : List V.Gact := [.len 24 (.sym 1) (.sym 4), .len 28 (.sym 2) (.sym 4)]
def fB : List V.Fact := [.cmp .neq (.sym 4) (.sym 4) false]
def aB : V.An := { an5 with orc := V.orcOr (V.orcOf fB) (V.orcG gB) }
noncomputable def zF2 (q : Nat) : V.St := nd (V.exec Try.prog aB 400 cF1 (zF1 q))
set_option maxRecDepth 1000000 in
theorem ruA0 : V.exec Try.prog an5 400 cF0 (zF 0) = some (.normal, zF1 0) := by kernel_rfl
set_option maxRecDepth 1000000 in
theorem ruB0 : V.exec Try.prog aB 400 cF1 (zF1 0) = some (.normal, zF2 0) := by kernel_rfl
set_option maxRecDepth 1000000 in
theorem ruC0 : V.uptoD Try.prog aB 400 cF3 (zF2 0) [0, 8, 16] kF 160 = some (.normal, hF 0 0) := by kernel_rfl
set_option maxRecDepth 1000000 in
theorem ruA1 : V.exec Try.prog an5 400 cF0 (zF 1) = some (.normal, zF1 1) := by kernel_rfl
set_option maxRecDepth 1000000 in
theorem ruB1 : V.exec Try.prog aB 400 cF1 (zF1 1) = some (.normal, zF2 1) := by kernel_rfl
set_option maxRecDepth 1000000 in
theorem ruC1 : V.uptoD Try.prog aB 400 cF3 (zF2 1) [0, 8, 16] kF 160 = some (.normal, hF 1 0) := by kernel_rfl
set_option maxRecDepth 1000000 in
theorem ruA2 : V.exec Try.prog an5 400 cF0 (zF 2) = some (.normal, zF1 2) := by kernel_rfl
set_option maxRecDepth 1000000 in
theorem ruB2 : V.exec Try.prog aB 400 cF1 (zF1 2) = some (.normal, zF2 2) := by kernel_rfl
set_option maxRecDepth 1000000 in
theorem ruC2 : V.uptoD Try.prog aB 400 cF3 (zF2 2) [0, 8, 16] kF 160 = some (.normal, hF 2 0) := by kernel_rfl
set_option maxRecDepth 1000000 in
theorem ruA3 : V.exec Try.prog an5 400 cF0 (zF 3) = some (.normal, zF1 3) := by kernel_rfl
set_option maxRecDepth 1000000 in
theorem ruB3 : V.exec Try.prog aB 400 cF1 (zF1 3) = some (.normal, zF2 3) := by kernel_rfl
set_option maxRecDepth 1000000 in
theorem ruC3 : V.uptoD Try.prog aB 400 cF3 (zF2 3) [0, 8, 16] kF 160 = some (.normal, hF 3 0) := by kernel_rfl
theorem ruABC (q : Nat) (hq : q < 4) : V.exec Try.prog an5 400 cF0 (zF q) = some (.normal, zF1 q) ∧ V.exec Try.prog aB 400 cF1 (zF1 q) = some (.normal, zF2 q) ∧ V.uptoD Try.prog aB 400 cF3 (zF2 q) [0, 8, 16] kF 160 = some (.normal, hF q 0) := by
  have h1 : q = 0 ∨ q = 1 ∨ q = 2 ∨ q = 3 := by omega
  rcases h1 with rfl | rfl | rfl | rfl
  · exact ⟨ruA0, ruB0, ruC0⟩
  · exact ⟨ruA1, ruB1, ruC1⟩
  · exact ⟨ruA2, ruB2, ruC2⟩
  · exact ⟨ruA3, ruB3, ruC3⟩
end Go.Proofs.Ytchmhmhjajocnaa.Say
