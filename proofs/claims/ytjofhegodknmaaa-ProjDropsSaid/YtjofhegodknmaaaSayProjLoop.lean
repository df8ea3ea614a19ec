/- proj.As of structs whose numbers rise: what it yields. Mine. -/
import Derived.Test.YtjofhegodknmaaaSayProjAs
set_option linter.unusedVariables false
set_option linter.unusedSimpArgs false
namespace Go.Proofs.Ytjofhegodknmaaa.Say
open Go Go.RowKit
open V (D)

def isN (r : Option (V.X × V.St)) : Bool :=
  match r with
  | some (V.X.normal, _) => true
  | _ => false
theorem isN_eq {r : Option (V.X × V.St)} (h : isN r = true) : r = some (.normal, nd r) := by
  unfold isN at h
  split at h
  · rfl
  · simp at h

/-! More runs: ahead of the loops, between them, the second loop's rounds, behind them. -/
def zP (p : Nat) : V.St := ⟨[.ptr 56 0 0, .dat (xD (.sym 61) (.sym 50)), .dat (stD (.sym 40) (nms p))] ++ List.replicate 115 .undef, [(56, mapO 0)], 112⟩
noncomputable def zP0 (p : Nat) : V.St := nd (V.exec Try.prog anE 400 p0 (zP p))
noncomputable def zP1 (p : Nat) : V.St := nd (V.exec Try.prog anE 400 p1 (zP0 p))
noncomputable def zP2 (p : Nat) : V.St := nd (V.exec Try.prog anE 400 p2 (zP1 p))
noncomputable def zP3 (p : Nat) : V.St := nd (V.exec Try.prog anE 400 p3 (zP2 p))
def PF (p : Nat) : V.St := PS (.sym 61) (.sym 50) (rowD (nms p)) (rowD ((nms p).map fun _ => vn (.sym 40))) (.sym 40) (.int .i64 p) (.int .i64 0) false []
set_option maxRecDepth 1000000 in
theorem runS : upto12.all (fun p => isN (V.exec Try.prog anE 400 p0 (zP p)) && (isN (V.exec Try.prog anE 400 p1 (zP0 p)) && (isN (V.exec Try.prog anE 400 p2 (zP1 p)) && (isN (V.exec Try.prog anE 400 p3 (zP2 p)) && V.endsAs (V.upto Try.prog anE 400 p4 (zP3 p) [56, 112, 120, 128, 248] keepP 1000) .normal (PF p))))) = true := by kernel_rfl
def QN (w i : Nat) (out : Bool) : V.St := QS (.sym 61) (.sym 50) (.sym 51) (.sym 52) (.sym 40) (.sym 44) (.sym i) out (nmC w)
def QN0 (w : Nat) (out : Bool) : V.St := QS (.sym 61) (.sym 50) (.sym 51) (.sym 52) (.sym 40) (.sym 44) (.int .i64 0) out (nmC w)
def aQ12 : V.An := { anE with orc := V.orcOr (V.orcOf []) (V.orcG [.len 29 (.sym 50) (.sym 44)]) }
set_option maxRecDepth 1000000 in
theorem runQ12 : upto12.all (fun w => bools.all fun o => V.endsAs (V.upto Try.prog aQ12 400 p12 (PN w 41 o []) (idsP w) keepQ (nxP (nmC w))) .normal (QN0 w o)) = true := by kernel_rfl
def fQi : List V.Fact := [.cmp .lss (.sym 45) (.sym 44) true, .ari .add (.sym 45) (.int .i64 1) (.sym 46)]
def gQi : List V.Gact := [.ix 29 (.sym 50) (.sym 45) [.sym 62, .int .i64 0, i8t, mt, .bool false, .int .i64 0, .int .i64 0, mt, .nil, .nil]]
def aQi : V.An := { anE with orc := V.orcOr (V.orcOf fQi) (V.orcG gQi) }
def aQo : V.An := { anE with orc := V.orcOf [.cmp .lss (.sym 45) (.sym 44) false] }
set_option maxRecDepth 1000000 in
theorem runQi : upto12.all (fun w => bools.all fun o => V.endsAs (V.upto Try.prog aQi 400 pLq (QN w 45 o) (idsP w) keepQ (nxP (nmC w))) .normal (QN w 46 o)) = true := by kernel_rfl
set_option maxRecDepth 1000000 in
theorem runQo : upto12.all (fun w => bools.all fun o => V.endsAs (V.upto Try.prog aQo 400 pLq (QN w 45 o) (idsP w) keepQ (nxP (nmC w))) (.exit 2) (QN w 45 o)) = true := by kernel_rfl
def fE (b : Bool) : List V.Fact := [.cmp .eql (.sym 61) (.int .i64 5) b, .cmp .eql (.sym 61) (.int .i64 8) false]
def tEn (w : Nat) : V.Tbl := [(13, [([stD (.sym 40) (nms w)], [stD (.sym 40) (nms w), .int .i64 0])])]
def aEn (b : Bool) (w : Nat) : V.An := { anE with spec := V.inTbl (tEn w), orc := V.orcOf (fE b) }
/-- is it refused? -/
def bad (b o : Bool) (w : Nat) : Bool := b && (o || !(Nat.beq w 1))
def cellsE (bd : Bool) (n : D) (ids : List D) : List V.U := if bd then [.dat (.int .i64 0), .dat (.int .i64 0), .dat mt, .dat .nil, .dat .nil] else [.dat (.int .i64 12), .dat (.int .i64 0), .dat mt, .dat (rowD (ids.map fun _ => vn n)), .dat (rowD ids)]
def errE (bd : Bool) : Int := if bd then 14 else 0
def snapO (ob : V.Obj) : V.Obj := { ob with snap := true }
def tmE : List V.U := [.junk, .junk, .junk, .junk, .junk, .junk, .ptr 128 0 0] ++ List.replicate 111 .junk
def ES (kind fs ids L n : D) (bd : Bool) (css : List (List D)) : V.St := ⟨tmE, [(56, mapO (errE bd)), (112, ⟨31, 3, true, 0, false, [.dat kind, .dat mt, .dat fs]⟩), (120, valO [.dat (.int .i64 12), .dat (.int .i64 0), .dat mt, .dat L, .dat ids]), (128, valO (cellsE bd n css.flatten)), (248, valO [.dat (.int .i64 12), .dat (.int .i64 0), .dat mt, lC css.length, iC css.length])] ++ (rowsP css n).map fun p => (p.1, snapO p.2), 9000⟩
def EN (w : Nat) (bd : Bool) : V.St := ES (.sym 61) (.sym 50) (.sym 51) (.sym 52) (.sym 40) bd (nmC w)
def kE6 : List Bool := [false, false, false, false, false, false, true]
set_option maxRecDepth 1000000 in
theorem runE : bools.all (fun b => upto12.all fun w => bools.all fun o => V.endsAs (V.upto Try.prog (aEn b w) 400 pR (QN w 45 o) (idsP w) kE6 9000) .ret (EN w (bad b o w))) = true := by kernel_rfl
end Go.Proofs.Ytjofhegodknmaaa.Say
