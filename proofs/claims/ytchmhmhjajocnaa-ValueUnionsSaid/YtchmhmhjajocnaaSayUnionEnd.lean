/- ValueUnions: the runs of the law's end and beginning. -/
import Derived.Test.YtchmhmhjajocnaaSayUnionLaw
set_option linter.unusedVariables false
set_option linter.unusedSimpArgs false
namespace Go.Proofs.Ytchmhmhjajocnaa.Say
open Go Go.RowKit
open V (D)
instance : V.Sig := V.sig0
-- the end
def endsTrue (P : Program) (an : V.An) (c : Code) (s : V.St) : Bool :=
  match V.exec P an 400 c s with
  | some (.ret, s') =>
    match (s'.tm[4]? : Option V.U) with
    | some (.dat (.bool b)) => b
    | _ => false
  | _ => false
def wants (q n : Nat) (r t : Bool) : Bool := if q = 1 then r && decide (n = 1) else if q = 3 then r && decide (n ≤ 1) else r && t
def fE (q : Nat) : List V.Fact := [.ari .rem (.sym 2) (.int .u8 4) (.int .u8 q)]
def gE (n : Nat) : List V.Gact := [.len 22 (.sym 1) (.int .i64 n)]
def tE (q n : Nat) (b : Bool) : V.Tbl := [(5, [([s0, xk q, .agg [.int .i64 12, .int .i64 0, mt, eltV n, rowS 30 n]], [.bool b])])]
def aE (q n : Nat) (b : Bool) : V.An := { an5 with spec := V.inTbl (tE q n b), orc := V.orcOr (V.orcOf (fE q)) (V.orcG (gE n)) }
set_option maxRecDepth 1000000 in
theorem ruE00ff : endsTrue Try.prog (aE 0 0 (wants 0 0 false false)) u9 (hU 0 false false 0) = true := by kernel_rfl
set_option maxRecDepth 1000000 in
theorem ruE00ft : endsTrue Try.prog (aE 0 0 (wants 0 0 false true)) u9 (hU 0 false true 0) = true := by kernel_rfl
set_option maxRecDepth 1000000 in
theorem ruE00tf : endsTrue Try.prog (aE 0 0 (wants 0 0 true false)) u9 (hU 0 true false 0) = true := by kernel_rfl
set_option maxRecDepth 1000000 in
theorem ruE00tt : endsTrue Try.prog (aE 0 0 (wants 0 0 true true)) u9 (hU 0 true true 0) = true := by kernel_rfl
set_option maxRecDepth 1000000 in
theorem ruE01ff : endsTrue Try.prog (aE 0 1 (wants 0 1 false false)) u9 (hU 0 false false 1) = true := by kernel_rfl
set_option maxRecDepth 1000000 in
theorem ruE01ft : endsTrue Try.prog (aE 0 1 (wants 0 1 false true)) u9 (hU 0 false true 1) = true := by kernel_rfl
set_option maxRecDepth 1000000 in
theorem ruE01tf : endsTrue Try.prog (aE 0 1 (wants 0 1 true false)) u9 (hU 0 true false 1) = true := by kernel_rfl
set_option maxRecDepth 1000000 in
theorem ruE01tt : endsTrue Try.prog (aE 0 1 (wants 0 1 true true)) u9 (hU 0 true true 1) = true := by kernel_rfl
set_option maxRecDepth 1000000 in
theorem ruE02ff : endsTrue Try.prog (aE 0 2 (wants 0 2 false false)) u9 (hU 0 false false 2) = true := by kernel_rfl
set_option maxRecDepth 1000000 in
theorem ruE02ft : endsTrue Try.prog (aE 0 2 (wants 0 2 false true)) u9 (hU 0 false true 2) = true := by kernel_rfl
set_option maxRecDepth 1000000 in
theorem ruE02tf : endsTrue Try.prog (aE 0 2 (wants 0 2 true false)) u9 (hU 0 true false 2) = true := by kernel_rfl
set_option maxRecDepth 1000000 in
theorem ruE02tt : endsTrue Try.prog (aE 0 2 (wants 0 2 true true)) u9 (hU 0 true true 2) = true := by kernel_rfl
set_option maxRecDepth 1000000 in
theorem ruE03ff : endsTrue Try.prog (aE 0 3 (wants 0 3 false false)) u9 (hU 0 false false 3) = true := by kernel_rfl
set_option maxRecDepth 1000000 in
theorem ruE03ft : endsTrue Try.prog (aE 0 3 (wants 0 3 false true)) u9 (hU 0 false true 3) = true := by kernel_rfl
set_option maxRecDepth 1000000 in
theorem ruE03tf : endsTrue Try.prog (aE 0 3 (wants 0 3 true false)) u9 (hU 0 true false 3) = true := by kernel_rfl
set_option maxRecDepth 1000000 in
theorem ruE03tt : endsTrue Try.prog (aE 0 3 (wants 0 3 true true)) u9 (hU 0 true true 3) = true := by kernel_rfl
set_option maxRecDepth 1000000 in
theorem ruE04ff : endsTrue Try.prog (aE 0 4 (wants 0 4 false false)) u9 (hU 0 false false 4) = true := by kernel_rfl
set_option maxRecDepth 1000000 in
theorem ruE04ft : endsTrue Try.prog (aE 0 4 (wants 0 4 false true)) u9 (hU 0 false true 4) = true := by kernel_rfl
set_option maxRecDepth 1000000 in
theorem ruE04tf : endsTrue Try.prog (aE 0 4 (wants 0 4 true false)) u9 (hU 0 true false 4) = true := by kernel_rfl
set_option maxRecDepth 1000000 in
theorem ruE04tt : endsTrue Try.prog (aE 0 4 (wants 0 4 true true)) u9 (hU 0 true true 4) = true := by kernel_rfl
set_option maxRecDepth 1000000 in
theorem ruE05ff : endsTrue Try.prog (aE 0 5 (wants 0 5 false false)) u9 (hU 0 false false 5) = true := by kernel_rfl
set_option maxRecDepth 1000000 in
theorem ruE05ft : endsTrue Try.prog (aE 0 5 (wants 0 5 false true)) u9 (hU 0 false true 5) = true := by kernel_rfl
set_option maxRecDepth 1000000 in
theorem ruE05tf : endsTrue Try.prog (aE 0 5 (wants 0 5 true false)) u9 (hU 0 true false 5) = true := by kernel_rfl
set_option maxRecDepth 1000000 in
theorem ruE05tt : endsTrue Try.prog (aE 0 5 (wants 0 5 true true)) u9 (hU 0 true true 5) = true := by kernel_rfl
set_option maxRecDepth 1000000 in
theorem ruE10ff : endsTrue Try.prog (aE 1 0 (wants 1 0 false false)) u9 (hU 1 false false 0) = true := by kernel_rfl
set_option maxRecDepth 1000000 in
theorem ruE10ft : endsTrue Try.prog (aE 1 0 (wants 1 0 false true)) u9 (hU 1 false true 0) = true := by kernel_rfl
set_option maxRecDepth 1000000 in
theorem ruE10tf : endsTrue Try.prog (aE 1 0 (wants 1 0 true false)) u9 (hU 1 true false 0) = true := by kernel_rfl
set_option maxRecDepth 1000000 in
theorem ruE10tt : endsTrue Try.prog (aE 1 0 (wants 1 0 true true)) u9 (hU 1 true true 0) = true := by kernel_rfl
set_option maxRecDepth 1000000 in
theorem ruE11ff : endsTrue Try.prog (aE 1 1 (wants 1 1 false false)) u9 (hU 1 false false 1) = true := by kernel_rfl
set_option maxRecDepth 1000000 in
theorem ruE11ft : endsTrue Try.prog (aE 1 1 (wants 1 1 false true)) u9 (hU 1 false true 1) = true := by kernel_rfl
set_option maxRecDepth 1000000 in
theorem ruE11tf : endsTrue Try.prog (aE 1 1 (wants 1 1 true false)) u9 (hU 1 true false 1) = true := by kernel_rfl
set_option maxRecDepth 1000000 in
theorem ruE11tt : endsTrue Try.prog (aE 1 1 (wants 1 1 true true)) u9 (hU 1 true true 1) = true := by kernel_rfl
set_option maxRecDepth 1000000 in
theorem ruE12ff : endsTrue Try.prog (aE 1 2 (wants 1 2 false false)) u9 (hU 1 false false 2) = true := by kernel_rfl
set_option maxRecDepth 1000000 in
theorem ruE12ft : endsTrue Try.prog (aE 1 2 (wants 1 2 false true)) u9 (hU 1 false true 2) = true := by kernel_rfl
set_option maxRecDepth 1000000 in
theorem ruE12tf : endsTrue Try.prog (aE 1 2 (wants 1 2 true false)) u9 (hU 1 true false 2) = true := by kernel_rfl
set_option maxRecDepth 1000000 in
theorem ruE12tt : endsTrue Try.prog (aE 1 2 (wants 1 2 true true)) u9 (hU 1 true true 2) = true := by kernel_rfl
set_option maxRecDepth 1000000 in
theorem ruE13ff : endsTrue Try.prog (aE 1 3 (wants 1 3 false false)) u9 (hU 1 false false 3) = true := by kernel_rfl
set_option maxRecDepth 1000000 in
theorem ruE13ft : endsTrue Try.prog (aE 1 3 (wants 1 3 false true)) u9 (hU 1 false true 3) = true := by kernel_rfl
set_option maxRecDepth 1000000 in
theorem ruE13tf : endsTrue Try.prog (aE 1 3 (wants 1 3 true false)) u9 (hU 1 true false 3) = true := by kernel_rfl
set_option maxRecDepth 1000000 in
theorem ruE13tt : endsTrue Try.prog (aE 1 3 (wants 1 3 true true)) u9 (hU 1 true true 3) = true := by kernel_rfl
set_option maxRecDepth 1000000 in
theorem ruE14ff : endsTrue Try.prog (aE 1 4 (wants 1 4 false false)) u9 (hU 1 false false 4) = true := by kernel_rfl
set_option maxRecDepth 1000000 in
theorem ruE14ft : endsTrue Try.prog (aE 1 4 (wants 1 4 false true)) u9 (hU 1 false true 4) = true := by kernel_rfl
set_option maxRecDepth 1000000 in
theorem ruE14tf : endsTrue Try.prog (aE 1 4 (wants 1 4 true false)) u9 (hU 1 true false 4) = true := by kernel_rfl
set_option maxRecDepth 1000000 in
theorem ruE14tt : endsTrue Try.prog (aE 1 4 (wants 1 4 true true)) u9 (hU 1 true true 4) = true := by kernel_rfl
set_option maxRecDepth 1000000 in
theorem ruE15ff : endsTrue Try.prog (aE 1 5 (wants 1 5 false false)) u9 (hU 1 false false 5) = true := by kernel_rfl
set_option maxRecDepth 1000000 in
theorem ruE15ft : endsTrue Try.prog (aE 1 5 (wants 1 5 false true)) u9 (hU 1 false true 5) = true := by kernel_rfl
set_option maxRecDepth 1000000 in
theorem ruE15tf : endsTrue Try.prog (aE 1 5 (wants 1 5 true false)) u9 (hU 1 true false 5) = true := by kernel_rfl
set_option maxRecDepth 1000000 in
theorem ruE15tt : endsTrue Try.prog (aE 1 5 (wants 1 5 true true)) u9 (hU 1 true true 5) = true := by kernel_rfl
set_option maxRecDepth 1000000 in
theorem ruE20ff : endsTrue Try.prog (aE 2 0 (wants 2 0 false false)) u9 (hU 2 false false 0) = true := by kernel_rfl
set_option maxRecDepth 1000000 in
theorem ruE20ft : endsTrue Try.prog (aE 2 0 (wants 2 0 false true)) u9 (hU 2 false true 0) = true := by kernel_rfl
set_option maxRecDepth 1000000 in
theorem ruE20tf : endsTrue Try.prog (aE 2 0 (wants 2 0 true false)) u9 (hU 2 true false 0) = true := by kernel_rfl
set_option maxRecDepth 1000000 in
theorem ruE20tt : endsTrue Try.prog (aE 2 0 (wants 2 0 true true)) u9 (hU 2 true true 0) = true := by kernel_rfl
set_option maxRecDepth 1000000 in
theorem ruE21ff : endsTrue Try.prog (aE 2 1 (wants 2 1 false false)) u9 (hU 2 false false 1) = true := by kernel_rfl
set_option maxRecDepth 1000000 in
theorem ruE21ft : endsTrue Try.prog (aE 2 1 (wants 2 1 false true)) u9 (hU 2 false true 1) = true := by kernel_rfl
set_option maxRecDepth 1000000 in
theorem ruE21tf : endsTrue Try.prog (aE 2 1 (wants 2 1 true false)) u9 (hU 2 true false 1) = true := by kernel_rfl
set_option maxRecDepth 1000000 in
theorem ruE21tt : endsTrue Try.prog (aE 2 1 (wants 2 1 true true)) u9 (hU 2 true true 1) = true := by kernel_rfl
set_option maxRecDepth 1000000 in
theorem ruE22ff : endsTrue Try.prog (aE 2 2 (wants 2 2 false false)) u9 (hU 2 false false 2) = true := by kernel_rfl
set_option maxRecDepth 1000000 in
theorem ruE22ft : endsTrue Try.prog (aE 2 2 (wants 2 2 false true)) u9 (hU 2 false true 2) = true := by kernel_rfl
set_option maxRecDepth 1000000 in
theorem ruE22tf : endsTrue Try.prog (aE 2 2 (wants 2 2 true false)) u9 (hU 2 true false 2) = true := by kernel_rfl
set_option maxRecDepth 1000000 in
theorem ruE22tt : endsTrue Try.prog (aE 2 2 (wants 2 2 true true)) u9 (hU 2 true true 2) = true := by kernel_rfl
set_option maxRecDepth 1000000 in
theorem ruE23ff : endsTrue Try.prog (aE 2 3 (wants 2 3 false false)) u9 (hU 2 false false 3) = true := by kernel_rfl
set_option maxRecDepth 1000000 in
theorem ruE23ft : endsTrue Try.prog (aE 2 3 (wants 2 3 false true)) u9 (hU 2 false true 3) = true := by kernel_rfl
set_option maxRecDepth 1000000 in
theorem ruE23tf : endsTrue Try.prog (aE 2 3 (wants 2 3 true false)) u9 (hU 2 true false 3) = true := by kernel_rfl
set_option maxRecDepth 1000000 in
theorem ruE23tt : endsTrue Try.prog (aE 2 3 (wants 2 3 true true)) u9 (hU 2 true true 3) = true := by kernel_rfl
set_option maxRecDepth 1000000 in
theorem ruE24ff : endsTrue Try.prog (aE 2 4 (wants 2 4 false false)) u9 (hU 2 false false 4) = true := by kernel_rfl
set_option maxRecDepth 1000000 in
theorem ruE24ft : endsTrue Try.prog (aE 2 4 (wants 2 4 false true)) u9 (hU 2 false true 4) = true := by kernel_rfl
set_option maxRecDepth 1000000 in
theorem ruE24tf : endsTrue Try.prog (aE 2 4 (wants 2 4 true false)) u9 (hU 2 true false 4) = true := by kernel_rfl
set_option maxRecDepth 1000000 in
theorem ruE24tt : endsTrue Try.prog (aE 2 4 (wants 2 4 true true)) u9 (hU 2 true true 4) = true := by kernel_rfl
set_option maxRecDepth 1000000 in
theorem ruE25ff : endsTrue Try.prog (aE 2 5 (wants 2 5 false false)) u9 (hU 2 false false 5) = true := by kernel_rfl
set_option maxRecDepth 1000000 in
theorem ruE25ft : endsTrue Try.prog (aE 2 5 (wants 2 5 false true)) u9 (hU 2 false true 5) = true := by kernel_rfl
set_option maxRecDepth 1000000 in
theorem ruE25tf : endsTrue Try.prog (aE 2 5 (wants 2 5 true false)) u9 (hU 2 true false 5) = true := by kernel_rfl
set_option maxRecDepth 1000000 in
theorem ruE25tt : endsTrue Try.prog (aE 2 5 (wants 2 5 true true)) u9 (hU 2 true true 5) = true := by kernel_rfl
set_option maxRecDepth 1000000 in
theorem ruE30ff : endsTrue Try.prog (aE 3 0 (wants 3 0 false false)) u9 (hU 3 false false 0) = true := by kernel_rfl
set_option maxRecDepth 1000000 in
theorem ruE30ft : endsTrue Try.prog (aE 3 0 (wants 3 0 false true)) u9 (hU 3 false true 0) = true := by kernel_rfl
set_option maxRecDepth 1000000 in
theorem ruE30tf : endsTrue Try.prog (aE 3 0 (wants 3 0 true false)) u9 (hU 3 true false 0) = true := by kernel_rfl
set_option maxRecDepth 1000000 in
theorem ruE30tt : endsTrue Try.prog (aE 3 0 (wants 3 0 true true)) u9 (hU 3 true true 0) = true := by kernel_rfl
set_option maxRecDepth 1000000 in
theorem ruE31ff : endsTrue Try.prog (aE 3 1 (wants 3 1 false false)) u9 (hU 3 false false 1) = true := by kernel_rfl
set_option maxRecDepth 1000000 in
theorem ruE31ft : endsTrue Try.prog (aE 3 1 (wants 3 1 false true)) u9 (hU 3 false true 1) = true := by kernel_rfl
set_option maxRecDepth 1000000 in
theorem ruE31tf : endsTrue Try.prog (aE 3 1 (wants 3 1 true false)) u9 (hU 3 true false 1) = true := by kernel_rfl
set_option maxRecDepth 1000000 in
theorem ruE31tt : endsTrue Try.prog (aE 3 1 (wants 3 1 true true)) u9 (hU 3 true true 1) = true := by kernel_rfl
set_option maxRecDepth 1000000 in
theorem ruE32ff : endsTrue Try.prog (aE 3 2 (wants 3 2 false false)) u9 (hU 3 false false 2) = true := by kernel_rfl
set_option maxRecDepth 1000000 in
theorem ruE32ft : endsTrue Try.prog (aE 3 2 (wants 3 2 false true)) u9 (hU 3 false true 2) = true := by kernel_rfl
set_option maxRecDepth 1000000 in
theorem ruE32tf : endsTrue Try.prog (aE 3 2 (wants 3 2 true false)) u9 (hU 3 true false 2) = true := by kernel_rfl
set_option maxRecDepth 1000000 in
theorem ruE32tt : endsTrue Try.prog (aE 3 2 (wants 3 2 true true)) u9 (hU 3 true true 2) = true := by kernel_rfl
set_option maxRecDepth 1000000 in
theorem ruE33ff : endsTrue Try.prog (aE 3 3 (wants 3 3 false false)) u9 (hU 3 false false 3) = true := by kernel_rfl
set_option maxRecDepth 1000000 in
theorem ruE33ft : endsTrue Try.prog (aE 3 3 (wants 3 3 false true)) u9 (hU 3 false true 3) = true := by kernel_rfl
set_option maxRecDepth 1000000 in
theorem ruE33tf : endsTrue Try.prog (aE 3 3 (wants 3 3 true false)) u9 (hU 3 true false 3) = true := by kernel_rfl
set_option maxRecDepth 1000000 in
theorem ruE33tt : endsTrue Try.prog (aE 3 3 (wants 3 3 true true)) u9 (hU 3 true true 3) = true := by kernel_rfl
set_option maxRecDepth 1000000 in
theorem ruE34ff : endsTrue Try.prog (aE 3 4 (wants 3 4 false false)) u9 (hU 3 false false 4) = true := by kernel_rfl
set_option maxRecDepth 1000000 in
theorem ruE34ft : endsTrue Try.prog (aE 3 4 (wants 3 4 false true)) u9 (hU 3 false true 4) = true := by kernel_rfl
set_option maxRecDepth 1000000 in
theorem ruE34tf : endsTrue Try.prog (aE 3 4 (wants 3 4 true false)) u9 (hU 3 true false 4) = true := by kernel_rfl
set_option maxRecDepth 1000000 in
theorem ruE34tt : endsTrue Try.prog (aE 3 4 (wants 3 4 true true)) u9 (hU 3 true true 4) = true := by kernel_rfl
set_option maxRecDepth 1000000 in
theorem ruE35ff : endsTrue Try.prog (aE 3 5 (wants 3 5 false false)) u9 (hU 3 false false 5) = true := by kernel_rfl
set_option maxRecDepth 1000000 in
theorem ruE35ft : endsTrue Try.prog (aE 3 5 (wants 3 5 false true)) u9 (hU 3 false true 5) = true := by kernel_rfl
set_option maxRecDepth 1000000 in
theorem ruE35tf : endsTrue Try.prog (aE 3 5 (wants 3 5 true false)) u9 (hU 3 true false 5) = true := by kernel_rfl
set_option maxRecDepth 1000000 in
theorem ruE35tt : endsTrue Try.prog (aE 3 5 (wants 3 5 true true)) u9 (hU 3 true true 5) = true := by kernel_rfl
theorem ruE (q n : Nat) (r t : Bool) (hq : q < 4) (hn : n < 6) : endsTrue Try.prog (aE q n (wants q n r t)) u9 (hU q r t n) = true := by
  have h1 : q = 0 ∨ q = 1 ∨ q = 2 ∨ q = 3 := by omega
  have h2 : n = 0 ∨ n = 1 ∨ n = 2 ∨ n = 3 ∨ n = 4 ∨ n = 5 := by omega
  rcases h1 with rfl | rfl | rfl | rfl <;> rcases h2 with rfl | rfl | rfl | rfl | rfl | rfl <;> cases r <;> cases t
  · exact ruE00ff
  · exact ruE00ft
  · exact ruE00tf
  · exact ruE00tt
  · exact ruE01ff
  · exact ruE01ft
  · exact ruE01tf
  · exact ruE01tt
  · exact ruE02ff
  · exact ruE02ft
  · exact ruE02tf
  · exact ruE02tt
  · exact ruE03ff
  · exact ruE03ft
  · exact ruE03tf
  · exact ruE03tt
  · exact ruE04ff
  · exact ruE04ft
  · exact ruE04tf
  · exact ruE04tt
  · exact ruE05ff
  · exact ruE05ft
  · exact ruE05tf
  · exact ruE05tt
  · exact ruE10ff
  · exact ruE10ft
  · exact ruE10tf
  · exact ruE10tt
  · exact ruE11ff
  · exact ruE11ft
  · exact ruE11tf
  · exact ruE11tt
  · exact ruE12ff
  · exact ruE12ft
  · exact ruE12tf
  · exact ruE12tt
  · exact ruE13ff
  · exact ruE13ft
  · exact ruE13tf
  · exact ruE13tt
  · exact ruE14ff
  · exact ruE14ft
  · exact ruE14tf
  · exact ruE14tt
  · exact ruE15ff
  · exact ruE15ft
  · exact ruE15tf
  · exact ruE15tt
  · exact ruE20ff
  · exact ruE20ft
  · exact ruE20tf
  · exact ruE20tt
  · exact ruE21ff
  · exact ruE21ft
  · exact ruE21tf
  · exact ruE21tt
  · exact ruE22ff
  · exact ruE22ft
  · exact ruE22tf
  · exact ruE22tt
  · exact ruE23ff
  · exact ruE23ft
  · exact ruE23tf
  · exact ruE23tt
  · exact ruE24ff
  · exact ruE24ft
  · exact ruE24tf
  · exact ruE24tt
  · exact ruE25ff
  · exact ruE25ft
  · exact ruE25tf
  · exact ruE25tt
  · exact ruE30ff
  · exact ruE30ft
  · exact ruE30tf
  · exact ruE30tt
  · exact ruE31ff
  · exact ruE31ft
  · exact ruE31tf
  · exact ruE31tt
  · exact ruE32ff
  · exact ruE32ft
  · exact ruE32tf
  · exact ruE32tt
  · exact ruE33ff
  · exact ruE33ft
  · exact ruE33tf
  · exact ruE33tt
  · exact ruE34ff
  · exact ruE34ft
  · exact ruE34tf
  · exact ruE34tt
  · exact ruE35ff
  · exact ruE35ft
  · exact ruE35tf
  · exact ruE35tt
-- the beginning
def v0 : V.St := ⟨[.dat (.sym 1), .dat (.sym 2)] ++ List.replicate 141 .undef, [], 0⟩
noncomputable def v1 : V.St := nd (V.exec Try.prog an5 400 u0 v0)
noncomputable def v2 : V.St := nd (V.exec Try.prog an5 400 u1 v1)
def fLen5 (b : Bool) : List V.Fact := [.cmp .gtr (.sym 4) (.int .i64 5) b]
def aLen5 (b : Bool) : V.An := { an5 with orc := V.orcOr (V.orcOf (fLen5 b)) (V.orcG gLn) }
noncomputable def v3 : V.St := nd (V.exec Try.prog (aLen5 false) 400 u2 v2)
def fK (q : Nat) : List V.Fact := [.ari .rem (.sym 2) (.int .u8 4) (.int .u8 q), .ari .rem (.sym 2) (.int .u8 2) (.int .u8 (q % 2 : Nat))]
def aK (q : Nat) : V.An := { an5 with orc := V.orcOf (fK q) }
def XA (q : Nat) : V.St := ⟨[.dat (.sym 1), .dat (.sym 2), .junk, .junk, .junk, .ptr 96 0 0] ++ List.replicate 137 .junk, [(96, ⟨27, 3, true, 0, false, [.int .i64 (sort_ q), mt, .nil].map .dat⟩)], 112⟩
set_option maxRecDepth 1000000 in
theorem ru0 : V.exec Try.prog an5 400 u0 v0 = some (.normal, v1) := by kernel_rfl
set_option maxRecDepth 1000000 in
theorem ru1 : V.exec Try.prog an5 400 u1 v1 = some (.normal, v2) := by kernel_rfl
set_option maxRecDepth 1000000 in
theorem ru2 : V.exec Try.prog (aLen5 false) 400 u2 v2 = some (.normal, v3) := by kernel_rfl
set_option maxRecDepth 1000000 in
theorem ru2t : endsTrue Try.prog (aLen5 true) u2 v2 = true := by kernel_rfl
set_option maxRecDepth 1000000 in
theorem ru3_0 : V.uptoD Try.prog (aK 0) 400 u3 v3 [96] kA 112 = some (.normal, XA 0) := by kernel_rfl
set_option maxRecDepth 1000000 in
theorem ru4_0 : V.uptoD Try.prog (aK 0) 400 u4 (XA 0) [96] kA 112 = some (.normal, PA (.sym 1) (.sym 2) 0) := by kernel_rfl
set_option maxRecDepth 1000000 in
theorem ru3_1 : V.uptoD Try.prog (aK 1) 400 u3 v3 [96] kA 112 = some (.normal, XA 1) := by kernel_rfl
set_option maxRecDepth 1000000 in
theorem ru4_1 : V.uptoD Try.prog (aK 1) 400 u4 (XA 1) [96] kA 112 = some (.normal, PA (.sym 1) (.sym 2) 1) := by kernel_rfl
set_option maxRecDepth 1000000 in
theorem ru3_2 : V.uptoD Try.prog (aK 2) 400 u3 v3 [96] kA 112 = some (.normal, XA 2) := by kernel_rfl
set_option maxRecDepth 1000000 in
theorem ru4_2 : V.uptoD Try.prog (aK 2) 400 u4 (XA 2) [96] kA 112 = some (.normal, PA (.sym 1) (.sym 2) 2) := by kernel_rfl
set_option maxRecDepth 1000000 in
theorem ru3_3 : V.uptoD Try.prog (aK 3) 400 u3 v3 [96] kA 112 = some (.normal, XA 3) := by kernel_rfl
set_option maxRecDepth 1000000 in
theorem ru4_3 : V.uptoD Try.prog (aK 3) 400 u4 (XA 3) [96] kA 112 = some (.normal, PA (.sym 1) (.sym 2) 3) := by kernel_rfl
theorem ru34 (q : Nat) (hq : q < 4) : V.uptoD Try.prog (aK q) 400 u3 v3 [96] kA 112 = some (.normal, XA q) ∧ V.uptoD Try.prog (aK q) 400 u4 (XA q) [96] kA 112 = some (.normal, PA (.sym 1) (.sym 2) q) := by
  have h1 : q = 0 ∨ q = 1 ∨ q = 2 ∨ q = 3 := by omega
  rcases h1 with rfl | rfl | rfl | rfl
  · exact ⟨ru3_0, ru4_0⟩
  · exact ⟨ru3_1, ru4_1⟩
  · exact ⟨ru3_2, ru4_2⟩
  · exact ⟨ru3_3, ru4_3⟩
noncomputable def v5 (q : Nat) : V.St := nd (V.exec Try.prog an5 400 u5 (PA (.sym 1) (.sym 2) q))
noncomputable def v6 (q : Nat) : V.St := nd (V.exec Try.prog an5 400 u6 (v5 q))
set_option maxRecDepth 1000000 in
theorem ru5 (q : Nat) : V.exec Try.prog an5 400 u5 (PA (.sym 1) (.sym 2) q) = some (.normal, v5 q) := by kernel_rfl
set_option maxRecDepth 1000000 in
theorem ru6 (q : Nat) : V.exec Try.prog an5 400 u6 (v5 q) = some (.normal, v6 q) := by kernel_rfl
set_option maxRecDepth 1000000 in
theorem ru7 (q : Nat) : V.upto Try.prog an5 400 u7 (v6 q) [96, 120] kU 160 = some (.normal, hU q true false 0) := by kernel_rfl
end Go.Proofs.Ytchmhmhjajocnaa.Say
