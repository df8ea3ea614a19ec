/- MeasureLists: what V tells of the law, its cases one by one. -/
import Derived.Test.YtdgihefkagoicaaChecked
import Derived.Test.YtdgihefkagoicaaV22
set_option linter.unusedVariables false
set_option linter.unusedSimpArgs false
namespace Go.Proofs.Ytdgihefkagoicaa.Say
open Go Go.RowKit
open V (D)
instance : V.Sig := V.sig0
theorem named : V.Named Try.prog := by
  have h : Try.prog.funcs.all (fun fn => fn.body.isNone || !(fn.name == "runtime.NumGoroutine")) = true := by kernel_rfl
  intro f fn c hf hc
  have := Array.all_eq_true_iff_forall_mem.1 h fn (Array.mem_of_getElem? hf)
  simpa [hc] using this
theorem regs : V.RegsP Try.prog := V.regs_of_check Try.checked.codeOk
theorem follows : Try.prog.follows .mixedOrders = true := by kernel_rfl
def d0 : V.D := .agg [.int .i64 15, .int .i64 0, V.txt [], .lst [.agg [.int .i64 3, .int .i64 0, V.txt [], .nil, .nil], .agg [.int .i64 15, .int .i64 0, V.txt [], .nil, .nil]], .nil]
def d1 : V.D := .agg [.int .i64 15, .int .i64 0, V.txt [], .lst [.agg [.int .i64 8, .int .i64 0, V.txt [], .nil, .nil]], .nil]
def a0 : List V.D := [(.agg [.int .i64 15, .int .i64 0, V.txt [], .nil, .nil])]
def r0 : List V.D := [(.int .i64 1)]
def a1 : List V.D := [d0]
def r1 : List V.D := [(.int .i64 2)]
def a2 : List V.D := [(.agg [.int .i64 3, .int .i64 0, V.txt [], .nil, .nil])]
def r2 : List V.D := [(.int .i64 1)]
def a3 : List V.D := [d0]
def r3 : List V.D := [(.int .i64 3)]
def a4 : List V.D := []
def r4 : List V.D := [(.bool true)]
def a5 : List V.D := [d1]
def r5 : List V.D := [(.int .i64 1)]
def a6 : List V.D := [(.agg [.int .i64 8, .int .i64 0, V.txt [], .nil, .nil])]
def r6 : List V.D := [(.int .i64 1)]
def a7 : List V.D := [d1]
def r7 : List V.D := [(.int .i64 2)]
def t0 : V.Tbl := []
theorem to0 : V.TblOk Try.prog t0 := V.TblOk.nil
def an0 : V.An := { io := fun f => [71,72,86,87,89,92,93,94,95,96,97,98,99,100,101,102,103,104,105].contains f, ownRes := fun f => [51].contains f, spec := V.inTbl t0 }
theorem good0 : V.Good Try.prog an0 := ⟨named, V.spec_of_tbl to0, fun _ _ _ _ h => nomatch h⟩
set_option maxRecDepth 1000000 in
theorem e0 : V.tells Try.prog an0 400 10 a0 r0 = true := by kernel_rfl
theorem h0 : V.Holds Try.prog 10 a0 r0 := V.holds_of_tells good0 regs follows e0
set_option maxRecDepth 1000000 in
theorem e2 : V.tells Try.prog an0 400 11 a2 r2 = true := by kernel_rfl
theorem h2 : V.Holds Try.prog 11 a2 r2 := V.holds_of_tells good0 regs follows e2
set_option maxRecDepth 1000000 in
theorem e5 : V.tells Try.prog an0 400 10 a5 r5 = true := by kernel_rfl
theorem h5 : V.Holds Try.prog 10 a5 r5 := V.holds_of_tells good0 regs follows e5
set_option maxRecDepth 1000000 in
theorem e6 : V.tells Try.prog an0 400 11 a6 r6 = true := by kernel_rfl
theorem h6 : V.Holds Try.prog 11 a6 r6 := V.holds_of_tells good0 regs follows e6
def t1 : V.Tbl := [(10, [(a0, r0), (a5, r5)]), (11, [(a2, r2), (a6, r6)])]
theorem to1 : V.TblOk Try.prog t1 := (V.TblOk.cons (V.RowOk.cons h0 (V.RowOk.cons h5 V.RowOk.nil)) (V.TblOk.cons (V.RowOk.cons h2 (V.RowOk.cons h6 V.RowOk.nil)) V.TblOk.nil))
def an1 : V.An := { io := fun f => [71,72,86,87,89,92,93,94,95,96,97,98,99,100,101,102,103,104,105].contains f, ownRes := fun f => [51].contains f, spec := V.inTbl t1 }
theorem good1 : V.Good Try.prog an1 := ⟨named, V.spec_of_tbl to1, fun _ _ _ _ h => nomatch h⟩
set_option maxRecDepth 1000000 in
theorem e1 : V.tells Try.prog an1 400 10 a1 r1 = true := by kernel_rfl
theorem h1 : V.Holds Try.prog 10 a1 r1 := V.holds_of_tells good1 regs follows e1
set_option maxRecDepth 1000000 in
theorem e3 : V.tells Try.prog an1 400 11 a3 r3 = true := by kernel_rfl
theorem h3 : V.Holds Try.prog 11 a3 r3 := V.holds_of_tells good1 regs follows e3
set_option maxRecDepth 1000000 in
theorem e7 : V.tells Try.prog an1 400 11 a7 r7 = true := by kernel_rfl
theorem h7 : V.Holds Try.prog 11 a7 r7 := V.holds_of_tells good1 regs follows e7
def t2 : V.Tbl := [(10, [(a0, r0), (a1, r1), (a5, r5)]), (11, [(a2, r2), (a3, r3), (a6, r6), (a7, r7)])]
theorem to2 : V.TblOk Try.prog t2 := (V.TblOk.cons (V.RowOk.cons h0 (V.RowOk.cons h1 (V.RowOk.cons h5 V.RowOk.nil))) (V.TblOk.cons (V.RowOk.cons h2 (V.RowOk.cons h3 (V.RowOk.cons h6 (V.RowOk.cons h7 V.RowOk.nil)))) V.TblOk.nil))
def an2 : V.An := { io := fun f => [71,72,86,87,89,92,93,94,95,96,97,98,99,100,101,102,103,104,105].contains f, ownRes := fun f => [51].contains f, spec := V.inTbl t2 }
theorem good2 : V.Good Try.prog an2 := ⟨named, V.spec_of_tbl to2, fun _ _ _ _ h => nomatch h⟩
set_option maxRecDepth 1000000 in
theorem e4 : V.tells Try.prog an2 400 9 a4 r4 = true := by kernel_rfl
theorem h4 : V.Holds Try.prog 9 a4 r4 := V.holds_of_tells good2 regs follows e4
def t3 : V.Tbl := [(10, [(a0, r0), (a1, r1), (a5, r5)]), (11, [(a2, r2), (a3, r3), (a6, r6), (a7, r7)]), (9, [(a4, r4)])]
theorem to3 : V.TblOk Try.prog t3 := (V.TblOk.cons (V.RowOk.cons h0 (V.RowOk.cons h1 (V.RowOk.cons h5 V.RowOk.nil))) (V.TblOk.cons (V.RowOk.cons h2 (V.RowOk.cons h3 (V.RowOk.cons h6 (V.RowOk.cons h7 V.RowOk.nil)))) (V.TblOk.cons (V.RowOk.cons h4 V.RowOk.nil) V.TblOk.nil)))
def an3 : V.An := { io := fun f => [71,72,86,87,89,92,93,94,95,96,97,98,99,100,101,102,103,104,105].contains f, ownRes := fun f => [51].contains f, spec := V.inTbl t3 }
theorem good3 : V.Good Try.prog an3 := ⟨named, V.spec_of_tbl to3, fun _ _ _ _ h => nomatch h⟩
theorem tno : V.tblNo t3 = true := by kernel_rfl
/-! What lies in what: the values that the law makes. -/
def kk : Nat → Int
  | 0 => 8
  | i + 1 => if i % 2 = 0 then 15 else 14
def cc (c i : Nat) : Nat := if i < 3 then c else 0
def mt : D := V.txt []
def bv : D := .agg [.int .i64 2, .int .i64 0, mt, .nil, .nil]
def ll (c : Nat) : Nat → D
  | 0 => .nil
  | i + 1 => .lst (.agg [.int .i64 (kk i), .int .i64 0, mt, ll c i, .nil] :: List.replicate (cc c i) bv)
def cells (c i : Nat) : List D := [.int .i64 (kk i), .int .i64 0, mt, ll c i, .nil]
def cnt (c : Nat) : Nat → Nat
  | 0 => 1
  | i + 1 => 1 + cnt c i + cc c i
theorem cnt_eq (c i : Nat) : cnt c i = 1 + i + min i 3 * c := by
  induction i with
  | zero => simp [cnt]
  | succ i ih =>
    simp only [cnt, ih, cc]
    split
    · have h1 : min i 3 = i := by omega
      have h2 : min (i + 1) 3 = i + 1 := by omega
      rw [h1, h2, Nat.add_mul]
      omega
    · have h1 : min i 3 = 3 := by omega
      have h2 : min (i + 1) 3 = 3 := by omega
      rw [h1, h2]
      omega
theorem noReps : ∀ m : Nat, V.noSyms (List.replicate m bv) = true
  | 0 => rfl
  | m + 1 => by simp only [List.replicate, V.noSyms, noReps m, Bool.and_true]; rfl
theorem noLl (c : Nat) : ∀ i : Nat, V.noSym (ll c i) = true
  | 0 => rfl
  | i + 1 => by
    simp only [ll, V.noSym, V.noSyms, noLl c i, noReps, Bool.and_true, Bool.true_and]
    rfl
theorem oneLl (c i : Nat) : (ll c i).one = true := by cases i <;> rfl

/-! How deep they are, and how many. -/
/-- 1 to 5: a value's cells; 6: how deep it is; 7: one more; 8: how many; 9 to 13: more by one, by two, .. -/
def sd (c i : Nat) : Nat → D
  | 1 => .int .i64 (kk i)
  | 2 => .int .i64 0
  | 3 => mt
  | 4 => ll c i
  | 6 => .int .i64 i
  | 7 => .int .i64 (i + 1)
  | 8 => .int .i64 (cnt c i)
  | 9 => .int .i64 (1 + cnt c i)
  | 10 => .int .i64 (2 + cnt c i)
  | 11 => .int .i64 (3 + cnt c i)
  | 12 => .int .i64 (4 + cnt c i)
  | 13 => .int .i64 (5 + cnt c i)
  | _ => .nil
theorem plainSd (c i : Nat) : V.Plain (sd c i) := by
  constructor
  · intro j
    unfold sd
    split <;> first | rfl | exact oneLl c i
  · intro j
    unfold sd
    split <;> first | rfl | exact noLl c i
def sv : D := .agg [.sym 1, .sym 2, .sym 3, .sym 4, .nil]
def wv (k : Int) (m : Nat) : D := .agg [.int .i64 k, .int .i64 0, mt, .lst (sv :: List.replicate m bv), .nil]
def fd : List V.Fact := [.mx .max (.int .i64 0) (.sym 6) (.sym 6), .mx .max (.sym 6) (.int .i64 0) (.sym 6), .ari .add (.sym 6) (.int .i64 1) (.sym 7),
  .ari .add (.int .i64 1) (.sym 8) (.sym 9), .ari .add (.sym 9) (.int .i64 1) (.sym 10), .ari .add (.sym 10) (.int .i64 1) (.sym 11), .ari .add (.sym 11) (.int .i64 1) (.sym 12), .ari .add (.sym 12) (.int .i64 1) (.sym 13)]
theorem fdOk (c i : Nat) (hi : i < 300) (hc : cnt c i < 3000) : ∀ f ∈ fd, @V.Fact.ok (V.sigOf (sd c i)) Try.prog f := by
  letI : V.Sig := V.sigOf (sd c i)
  intro f hf
  simp only [fd, List.mem_cons, List.not_mem_nil, or_false] at hf
  rcases hf with rfl | rfl | rfl | rfl | rfl | rfl | rfl | rfl
  · exact V.okm (k := .i64) (m := 0) (n := i) (r := i) rfl rfl (by simp only [V.mxI, Option.some.injEq]; split <;> omega) rfl
  · exact V.okm (k := .i64) (m := i) (n := 0) (r := i) rfl rfl (by simp only [V.mxI, Option.some.injEq]; split <;> omega) rfl
  · exact V.oka (k := .i64) (m := i) (n := 1) (r := i + 1) rfl rfl (by simp only [V.ariI, V.wr_i64, Option.some.injEq]; omega) rfl
  · exact V.oka (k := .i64) (m := 1) (n := cnt c i) (r := 1 + cnt c i) rfl rfl (by simp only [V.ariI, V.wr_i64, Option.some.injEq]; omega) rfl
  · exact V.oka (k := .i64) (m := 1 + cnt c i) (n := 1) (r := 2 + cnt c i) rfl rfl (by simp only [V.ariI, V.wr_i64, Option.some.injEq]; omega) rfl
  · exact V.oka (k := .i64) (m := 2 + cnt c i) (n := 1) (r := 3 + cnt c i) rfl rfl (by simp only [V.ariI, V.wr_i64, Option.some.injEq]; omega) rfl
  · exact V.oka (k := .i64) (m := 3 + cnt c i) (n := 1) (r := 4 + cnt c i) rfl rfl (by simp only [V.ariI, V.wr_i64, Option.some.injEq]; omega) rfl
  · exact V.oka (k := .i64) (m := 4 + cnt c i) (n := 1) (r := 5 + cnt c i) rfl rfl (by simp only [V.ariI, V.wr_i64, Option.some.injEq]; omega) rfl
def td : V.Tbl := [(10, [([sv], [.sym 6])]), (11, [([sv], [.sym 8])])]
def ad : V.An := { an3 with spec := V.inTbl td, orc := V.orcOf fd }
set_option maxRecDepth 1000000 in
theorem runD : ([15, 14] : List Int).all (fun k => (List.range 5).all fun m => V.tells Try.prog ad 400 10 [wv k m] [.sym 7]) = true := by kernel_rfl
set_option maxRecDepth 1000000 in
theorem runC : ([15, 14] : List Int).all (fun k => (List.range 5).all fun m => V.tells Try.prog ad 400 11 [wv k m] [.sym (9 + m)]) = true := by kernel_rfl
set_option maxRecDepth 1000000 in
theorem run0D : V.tells Try.prog an3 400 10 [.agg (cells 0 0)] [.int .i64 0] = true := by kernel_rfl
set_option maxRecDepth 1000000 in
theorem run0C : V.tells Try.prog an3 400 11 [.agg (cells 0 0)] [.int .i64 1] = true := by kernel_rfl
theorem kk_or (i : Nat) : kk (i + 1) ∈ ([15, 14] : List Int) := by simp only [kk]; split <;> simp
theorem cc_lt {c : Nat} (h : c < 5) (i : Nat) : cc c i < 5 := by unfold cc; split <;> omega
theorem tdOk (c i : Nat) (hD : V.Holds Try.prog 10 [.agg (cells c i)] [.int .i64 i]) (hC : V.Holds Try.prog 11 [.agg (cells c i)] [.int .i64 (cnt c i)]) : @V.TblOk (V.sigOf (sd c i)) Try.prog td := by
  have h1 : @V.Holds (V.sigOf (sd c i)) Try.prog 10 [sv] [.sym 6] := V.Holds.outs (plainSd c i) hD
  have h2 : @V.Holds (V.sigOf (sd c i)) Try.prog 11 [sv] [.sym 8] := V.Holds.outs (plainSd c i) hC
  letI : V.Sig := V.sigOf (sd c i)
  exact V.TblOk.cons (V.RowOk.cons h1 V.RowOk.nil) (V.TblOk.cons (V.RowOk.cons h2 V.RowOk.nil) V.TblOk.nil)
theorem inReps (σ : Nat → D) : ∀ m : Nat, V.inDs σ (List.replicate m bv) = List.replicate m bv := fun m => V.inDs_no σ _ (noReps m)
theorem deep (c : Nat) (hc : c < 5) : ∀ i : Nat, i < 300 → V.Holds Try.prog 10 [.agg (cells c i)] [.int .i64 i] ∧ V.Holds Try.prog 11 [.agg (cells c i)] [.int .i64 (cnt c i)] := by
  intro i
  induction i with
  | zero => intro _; exact ⟨V.holds_of_tells good3 regs follows run0D, V.holds_of_tells good3 regs follows run0C⟩
  | succ i ih =>
    intro hi
    obtain ⟨hD, hC⟩ := ih (by omega)
    have hcn : cnt c i < 3000 := by rw [cnt_eq]; have : min i 3 * c ≤ 3 * 4 := Nat.mul_le_mul (by omega) (by omega); omega
    have hm := cc_lt hc i
    have e1 := List.all_eq_true.1 (List.all_eq_true.1 runD _ (kk_or i)) (cc c i) (List.mem_range.2 hm)
    have e2 := List.all_eq_true.1 (List.all_eq_true.1 runC _ (kk_or i)) (cc c i) (List.mem_range.2 hm)
    have hg : @V.Good (V.sigOf (sd c i)) Try.prog ad := @V.Good.mk (V.sigOf (sd c i)) _ _ named (@V.spec_of_tbl (V.sigOf (sd c i)) _ _ (tdOk c i hD hC)) (@V.orc_of (V.sigOf (sd c i)) _ _ (fdOk c i (by omega) hcn) _ rfl)
    have f1 := V.Holds.ins (plainSd c i) (@V.holds_of_tells (V.sigOf (sd c i)) _ _ hg regs follows _ _ _ _ e1)
    have f2 := V.Holds.ins (plainSd c i) (@V.holds_of_tells (V.sigOf (sd c i)) _ _ hg regs follows _ _ _ _ e2)
    have w : V.inDs (sd c i) [wv (kk (i + 1)) (cc c i)] = [.agg (cells c (i + 1))] := by
      simp only [wv, sv, cells, ll, V.inDs, V.inD, inReps, sd]
      rfl
    rw [w] at f1 f2
    refine ⟨f1, ?_⟩
    have hr : V.inDs (sd c i) [.sym (9 + cc c i)] = [.int .i64 (cnt c (i + 1))] := by
      have : cnt c (i + 1) = 1 + cnt c i + cc c i := rfl
      rw [this]
      generalize cc c i = m at hm
      have : m = 0 ∨ m = 1 ∨ m = 2 ∨ m = 3 ∨ m = 4 := by omega
      rcases this with rfl | rfl | rfl | rfl | rfl <;> simp only [V.inDs, V.inD, sd] <;> congr 2 <;> omega
    rw [hr] at f2
    exact f2

/-! The law's code, in parts. -/
def cf : Code → Code
  | .seq a _ => a
  | c => c
def cs : Code → Code
  | .seq _ b => b
  | c => c
def cb : Code → Code
  | .block _ b => b
  | .loop b => b
  | c => c
noncomputable def c4 : Code := match Try.f4.body with
  | some c => c
  | none => .skip
noncomputable def q0 : Code := cf c4
noncomputable def p1 : Code := cf (cs c4)
noncomputable def q3 : Code := cf (cs (cs c4))
noncomputable def p3 : Code := cf (cs (cs (cs c4)))
noncomputable def q4 : Code := cf p3
noncomputable def b5 : Code := cb (cb (cs p3))
noncomputable def p4 : Code := cs (cs (cs (cs c4)))
theorem body4 : Try.f4.body = some c4 := by kernel_rfl
theorem shape4 : c4 = .seq q0 (.seq p1 (.seq q3 (.seq (.seq q4 (.block 0 (.loop b5))) p4))) := by kernel_rfl
theorem regs4 : V.Regs q0 ∧ V.Regs p1 ∧ V.Regs q3 ∧ (V.Regs q4 ∧ V.Regs b5) ∧ V.Regs p4 := by
  have h := regs 4 Try.f4 c4 Try.func4 body4
  rw [shape4] at h
  exact h

def ST (n k i : D) (l : List D) : V.St := ⟨[.dat n, .dat k, .junk, .junk, .junk, .ptr 32 0 0, .dat i] ++ List.replicate 56 .junk, [(32, ⟨41, 5, true, 0, false, l.map .dat⟩)], 56⟩
def SF (l : List D) : V.St := ⟨[.junk, .junk, .junk, .junk, .dat (.bool true)] ++ List.replicate 58 .junk, [(32, ⟨41, 5, true, 0, false, l.map .dat⟩)], 56⟩
theorem inST (σ : Nat → D) (n k i : D) (l : List D) : V.inS σ (ST n k i l) = ST (V.inD σ n) (V.inD σ k) (V.inD σ i) (V.inDs σ l) := by
  simp only [ST, V.inS, V.inUs_eq, List.map_append, List.map_cons, List.map_nil, V.inU, List.map_replicate, V.inSt, V.inO, V.inDs_eq, List.map_map]
  rfl
theorem inSF (σ : Nat → D) (l : List D) : V.inS σ (SF l) = SF (V.inDs σ l) := by
  simp only [SF, V.inS, V.inUs_eq, List.map_append, List.map_cons, List.map_nil, V.inU, V.inD, List.map_replicate, V.inSt, V.inO, V.inDs_eq, List.map_map]
  rfl
def keep : List Bool := [true, true, false, false, false, true, true]
def keepF : List Bool := [false, false, false, false, true]
def sl (c i n k : Nat) : Nat → D
  | 0 => .int .i64 i
  | 1 => .int .i64 (kk i)
  | 2 => .int .i64 0
  | 3 => mt
  | 4 => ll c i
  | 6 => .int .i64 i
  | 8 => .int .i64 (cnt c i)
  | 20 => .int .u8 n
  | 21 => .int .u8 k
  | 22 => .int .i64 (i + 1)
  | 23 => .int .i64 n
  | 24 => .int .i64 (1 + n)
  | 25 => .int .i64 (min n 3 : Nat)
  | 26 => .int .u8 c
  | 27 => .int .i64 c
  | 28 => .int .i64 (min n 3 * c : Nat)
  | 29 => .int .i64 (1 + n + min n 3 * c : Nat)
  | _ => .nil
theorem plainSl (c i n k : Nat) : V.Plain (sl c i n k) := by
  constructor
  · intro j
    unfold sl
    split <;> first | rfl | exact oneLl c i
  · intro j
    unfold sl
    split <;> first | rfl | exact noLl c i
def s0 : List D := [.sym 1, .sym 2, .sym 3, .sym 4, .nil]
-- from the fourth round on
def fl (p : Int) : List V.Fact := [.conv 5 3 (.sym 20) (.sym 23), .cmp .lss (.sym 0) (.sym 23) true, .ari .rem (.sym 0) (.int .i64 2) (.int .i64 p), .cmp .lss (.sym 0) (.int .i64 3) false, .ari .add (.sym 0) (.int .i64 1) (.sym 22)]
def al (p : Int) : V.An := { an3 with orc := V.orcOf (fl p) }
set_option maxRecDepth 1000000 in
theorem runL0 : V.uptoD Try.prog (al 0) 400 b5 (ST (.sym 20) (.sym 21) (.sym 0) s0) [32] keep 56 = some (.normal, ST (.sym 20) (.sym 21) (.sym 22) [.int .i64 15, .int .i64 0, mt, .lst [sv], .nil]) := by kernel_rfl
set_option maxRecDepth 1000000 in
theorem runL1 : V.uptoD Try.prog (al 1) 400 b5 (ST (.sym 20) (.sym 21) (.sym 0) s0) [32] keep 56 = some (.normal, ST (.sym 20) (.sym 21) (.sym 22) [.int .i64 14, .int .i64 0, mt, .lst [sv], .nil]) := by kernel_rfl
-- the first three rounds
def fs (j c : Nat) : List V.Fact := [.conv 5 3 (.sym 20) (.sym 23), .cmp .lss (.int .i64 j) (.sym 23) true, .ari .rem (.sym 21) (.int .u8 5) (.int .u8 c)]
def ag (j c : Nat) : V.An := { an3 with orc := V.orcOf (fs j c) }
set_option maxRecDepth 1000000 in
theorem runS00 : V.uptoD Try.prog (ag 0 0) 400 b5 (ST (.sym 20) (.sym 21) (.int .i64 (0 : Nat)) s0) [32] keep 56 = some (.normal, ST (.sym 20) (.sym 21) (.int .i64 (0 + 1 : Nat)) [.int .i64 (kk (0 + 1)), .int .i64 0, mt, .lst (sv :: List.replicate 0 bv), .nil]) := by kernel_rfl
set_option maxRecDepth 1000000 in
theorem runS01 : V.uptoD Try.prog (ag 0 1) 400 b5 (ST (.sym 20) (.sym 21) (.int .i64 (0 : Nat)) s0) [32] keep 56 = some (.normal, ST (.sym 20) (.sym 21) (.int .i64 (0 + 1 : Nat)) [.int .i64 (kk (0 + 1)), .int .i64 0, mt, .lst (sv :: List.replicate 1 bv), .nil]) := by kernel_rfl
set_option maxRecDepth 1000000 in
theorem runS02 : V.uptoD Try.prog (ag 0 2) 400 b5 (ST (.sym 20) (.sym 21) (.int .i64 (0 : Nat)) s0) [32] keep 56 = some (.normal, ST (.sym 20) (.sym 21) (.int .i64 (0 + 1 : Nat)) [.int .i64 (kk (0 + 1)), .int .i64 0, mt, .lst (sv :: List.replicate 2 bv), .nil]) := by kernel_rfl
set_option maxRecDepth 1000000 in
theorem runS03 : V.uptoD Try.prog (ag 0 3) 400 b5 (ST (.sym 20) (.sym 21) (.int .i64 (0 : Nat)) s0) [32] keep 56 = some (.normal, ST (.sym 20) (.sym 21) (.int .i64 (0 + 1 : Nat)) [.int .i64 (kk (0 + 1)), .int .i64 0, mt, .lst (sv :: List.replicate 3 bv), .nil]) := by kernel_rfl
set_option maxRecDepth 1000000 in
theorem runS04 : V.uptoD Try.prog (ag 0 4) 400 b5 (ST (.sym 20) (.sym 21) (.int .i64 (0 : Nat)) s0) [32] keep 56 = some (.normal, ST (.sym 20) (.sym 21) (.int .i64 (0 + 1 : Nat)) [.int .i64 (kk (0 + 1)), .int .i64 0, mt, .lst (sv :: List.replicate 4 bv), .nil]) := by kernel_rfl
set_option maxRecDepth 1000000 in
theorem runS10 : V.uptoD Try.prog (ag 1 0) 400 b5 (ST (.sym 20) (.sym 21) (.int .i64 (1 : Nat)) s0) [32] keep 56 = some (.normal, ST (.sym 20) (.sym 21) (.int .i64 (1 + 1 : Nat)) [.int .i64 (kk (1 + 1)), .int .i64 0, mt, .lst (sv :: List.replicate 0 bv), .nil]) := by kernel_rfl
set_option maxRecDepth 1000000 in
theorem runS11 : V.uptoD Try.prog (ag 1 1) 400 b5 (ST (.sym 20) (.sym 21) (.int .i64 (1 : Nat)) s0) [32] keep 56 = some (.normal, ST (.sym 20) (.sym 21) (.int .i64 (1 + 1 : Nat)) [.int .i64 (kk (1 + 1)), .int .i64 0, mt, .lst (sv :: List.replicate 1 bv), .nil]) := by kernel_rfl
set_option maxRecDepth 1000000 in
theorem runS12 : V.uptoD Try.prog (ag 1 2) 400 b5 (ST (.sym 20) (.sym 21) (.int .i64 (1 : Nat)) s0) [32] keep 56 = some (.normal, ST (.sym 20) (.sym 21) (.int .i64 (1 + 1 : Nat)) [.int .i64 (kk (1 + 1)), .int .i64 0, mt, .lst (sv :: List.replicate 2 bv), .nil]) := by kernel_rfl
set_option maxRecDepth 1000000 in
theorem runS13 : V.uptoD Try.prog (ag 1 3) 400 b5 (ST (.sym 20) (.sym 21) (.int .i64 (1 : Nat)) s0) [32] keep 56 = some (.normal, ST (.sym 20) (.sym 21) (.int .i64 (1 + 1 : Nat)) [.int .i64 (kk (1 + 1)), .int .i64 0, mt, .lst (sv :: List.replicate 3 bv), .nil]) := by kernel_rfl
set_option maxRecDepth 1000000 in
theorem runS14 : V.uptoD Try.prog (ag 1 4) 400 b5 (ST (.sym 20) (.sym 21) (.int .i64 (1 : Nat)) s0) [32] keep 56 = some (.normal, ST (.sym 20) (.sym 21) (.int .i64 (1 + 1 : Nat)) [.int .i64 (kk (1 + 1)), .int .i64 0, mt, .lst (sv :: List.replicate 4 bv), .nil]) := by kernel_rfl
set_option maxRecDepth 1000000 in
theorem runS20 : V.uptoD Try.prog (ag 2 0) 400 b5 (ST (.sym 20) (.sym 21) (.int .i64 (2 : Nat)) s0) [32] keep 56 = some (.normal, ST (.sym 20) (.sym 21) (.int .i64 (2 + 1 : Nat)) [.int .i64 (kk (2 + 1)), .int .i64 0, mt, .lst (sv :: List.replicate 0 bv), .nil]) := by kernel_rfl
set_option maxRecDepth 1000000 in
theorem runS21 : V.uptoD Try.prog (ag 2 1) 400 b5 (ST (.sym 20) (.sym 21) (.int .i64 (2 : Nat)) s0) [32] keep 56 = some (.normal, ST (.sym 20) (.sym 21) (.int .i64 (2 + 1 : Nat)) [.int .i64 (kk (2 + 1)), .int .i64 0, mt, .lst (sv :: List.replicate 1 bv), .nil]) := by kernel_rfl
set_option maxRecDepth 1000000 in
theorem runS22 : V.uptoD Try.prog (ag 2 2) 400 b5 (ST (.sym 20) (.sym 21) (.int .i64 (2 : Nat)) s0) [32] keep 56 = some (.normal, ST (.sym 20) (.sym 21) (.int .i64 (2 + 1 : Nat)) [.int .i64 (kk (2 + 1)), .int .i64 0, mt, .lst (sv :: List.replicate 2 bv), .nil]) := by kernel_rfl
set_option maxRecDepth 1000000 in
theorem runS23 : V.uptoD Try.prog (ag 2 3) 400 b5 (ST (.sym 20) (.sym 21) (.int .i64 (2 : Nat)) s0) [32] keep 56 = some (.normal, ST (.sym 20) (.sym 21) (.int .i64 (2 + 1 : Nat)) [.int .i64 (kk (2 + 1)), .int .i64 0, mt, .lst (sv :: List.replicate 3 bv), .nil]) := by kernel_rfl
set_option maxRecDepth 1000000 in
theorem runS24 : V.uptoD Try.prog (ag 2 4) 400 b5 (ST (.sym 20) (.sym 21) (.int .i64 (2 : Nat)) s0) [32] keep 56 = some (.normal, ST (.sym 20) (.sym 21) (.int .i64 (2 + 1 : Nat)) [.int .i64 (kk (2 + 1)), .int .i64 0, mt, .lst (sv :: List.replicate 4 bv), .nil]) := by kernel_rfl
theorem runS (j c : Nat) (hj : j < 3) (hc : c < 5) : V.uptoD Try.prog (ag j c) 400 b5 (ST (.sym 20) (.sym 21) (.int .i64 j) s0) [32] keep 56 = some (.normal, ST (.sym 20) (.sym 21) (.int .i64 (j + 1 : Nat)) [.int .i64 (kk (j + 1)), .int .i64 0, mt, .lst (sv :: List.replicate c bv), .nil]) := by
  have h1 : j = 0 ∨ j = 1 ∨ j = 2 := by omega
  have h2 : c = 0 ∨ c = 1 ∨ c = 2 ∨ c = 3 ∨ c = 4 := by omega
  rcases h1 with rfl | rfl | rfl <;> rcases h2 with rfl | rfl | rfl | rfl | rfl
  · exact runS00
  · exact runS01
  · exact runS02
  · exact runS03
  · exact runS04
  · exact runS10
  · exact runS11
  · exact runS12
  · exact runS13
  · exact runS14
  · exact runS20
  · exact runS21
  · exact runS22
  · exact runS23
  · exact runS24
-- the end of the rounds
def fx : List V.Fact := [.conv 5 3 (.sym 20) (.sym 23), .cmp .lss (.sym 0) (.sym 23) false]
def ax : V.An := { an3 with orc := V.orcOf fx }
set_option maxRecDepth 1000000 in
theorem runX : V.uptoD Try.prog ax 400 b5 (ST (.sym 20) (.sym 21) (.sym 0) s0) [32] keep 56 = some (.exit 0, ST (.sym 20) (.sym 21) (.sym 0) s0) := by kernel_rfl
-- what is held against what
def ff : List V.Fact := [.conv 5 3 (.sym 20) (.sym 23), .cmp .eql (.sym 6) (.sym 23) true, .ari .add (.int .i64 1) (.sym 23) (.sym 24), .mx .min (.sym 23) (.int .i64 3) (.sym 25), .ari .rem (.sym 21) (.int .u8 5) (.sym 26), .conv 5 3 (.sym 26) (.sym 27), .ari .mul (.sym 25) (.sym 27) (.sym 28), .ari .add (.sym 24) (.sym 28) (.sym 29), .cmp .eql (.sym 8) (.sym 29) true]
def af : V.An := { an3 with spec := V.inTbl td, orc := V.orcOf ff }
set_option maxRecDepth 1000000 in
theorem runF : V.uptoD Try.prog af 400 p4 (ST (.sym 20) (.sym 21) (.sym 0) s0) [32] keepF 56 = some (.ret, SF s0) := by kernel_rfl
-- the beginning
def nd : Option (V.X × V.St) → V.St
  | some (_, s) => s
  | none => default
def z0 : V.St := ⟨[.dat (.sym 20), .dat (.sym 21)] ++ List.replicate 61 .undef, [], 0⟩
noncomputable def z1 : V.St := nd (V.exec Try.prog an3 400 q0 z0)
noncomputable def z2 : V.St := nd (V.exec Try.prog an3 400 p1 z1)
noncomputable def z3 : V.St := nd (V.exec Try.prog an3 400 q3 z2)
set_option maxRecDepth 1000000 in
theorem run1 : V.exec Try.prog an3 400 q0 z0 = some (.normal, z1) := by kernel_rfl
set_option maxRecDepth 1000000 in
theorem run2 : V.exec Try.prog an3 400 p1 z1 = some (.normal, z2) := by kernel_rfl
set_option maxRecDepth 1000000 in
theorem run3 : V.exec Try.prog an3 400 q3 z2 = some (.normal, z3) := by kernel_rfl
set_option maxRecDepth 1000000 in
theorem run4 : V.uptoD Try.prog an3 400 q4 z3 [32] keep 56 = some (.normal, ST (.sym 20) (.sym 21) (.int .i64 0) (cells 0 0)) := by kernel_rfl

/-! The law. -/
theorem wrs (n : Nat) (h : n < 100000) : IntKind.i64.wrap (n : Int) = n := by rw [V.wr_i64]; omega
theorem flOk (c i n k : Nat) (p : Int) (hn : n < 256) (hi : i < n) (h3 : ¬ i < 3) (hp : (i % 2 : Nat) = p) : ∀ f ∈ fl p, @V.Fact.ok (V.sigOf (sl c i n k)) Try.prog f := by
  letI : V.Sig := V.sigOf (sl c i n k)
  intro f hf
  simp only [fl, List.mem_cons, List.not_mem_nil, or_false] at hf
  rcases hf with rfl | rfl | rfl | rfl | rfl
  · exact V.okv (k := .u8) (j := .i64) (n := n) Try.underlying5 rfl Try.underlying3 (by rw [wrs n (by omega)]; rfl)
  · exact V.okc (k := .i64) (m := i) (n := n) rfl rfl (V.c_lssT (by omega))
  · exact V.oka (k := .i64) (m := i) (n := 2) (r := p) rfl rfl (by simp only [V.ariI]; rw [if_neg (by omega), Int.tmod_eq_emod_of_nonneg (by omega)]; congr 1 <;> omega) rfl
  · exact V.okc (k := .i64) (m := i) (n := 3) rfl rfl (V.c_lssF (by omega))
  · exact V.oka (k := .i64) (m := i) (n := 1) (r := i + 1) rfl rfl (by simp only [V.ariI, V.wr_i64, Option.some.injEq]; omega) rfl
theorem fsOk (c i n k j : Nat) (hn : n < 256) (hj : j < n) (hj3 : j < 3) (hk : k < 256) (hc : k % 5 = c) : ∀ f ∈ fs j c, @V.Fact.ok (V.sigOf (sl c i n k)) Try.prog f := by
  letI : V.Sig := V.sigOf (sl c i n k)
  intro f hf
  simp only [fs, List.mem_cons, List.not_mem_nil, or_false] at hf
  rcases hf with rfl | rfl | rfl
  · exact V.okv (k := .u8) (j := .i64) (n := n) Try.underlying5 rfl Try.underlying3 (by rw [wrs n (by omega)]; rfl)
  · exact V.okc (k := .i64) (m := j) (n := n) rfl rfl (V.c_lssT (by omega))
  · exact V.oka (k := .u8) (m := k) (n := 5) (r := c) rfl rfl (by simp only [V.ariI]; rw [if_neg (by omega), Int.tmod_eq_emod_of_nonneg (by omega)]; congr 1 <;> omega) rfl
theorem fxOk (c n k : Nat) (hn : n < 256) : ∀ f ∈ fx, @V.Fact.ok (V.sigOf (sl c n n k)) Try.prog f := by
  letI : V.Sig := V.sigOf (sl c n n k)
  intro f hf
  simp only [fx, List.mem_cons, List.not_mem_nil, or_false] at hf
  rcases hf with rfl | rfl
  · exact V.okv (k := .u8) (j := .i64) (n := n) Try.underlying5 rfl Try.underlying3 (by rw [wrs n (by omega)]; rfl)
  · exact V.okc (k := .i64) (m := n) (n := n) rfl rfl (V.c_lssF (by omega))
theorem ffOk (c n k : Nat) (hn : n < 256) (hk : k < 256) (hc : k % 5 = c) : ∀ f ∈ ff, @V.Fact.ok (V.sigOf (sl c n n k)) Try.prog f := by
  letI : V.Sig := V.sigOf (sl c n n k)
  have hm : min n 3 * c ≤ 3 * 4 := Nat.mul_le_mul (by omega) (by omega)
  have hm2 : ((min n 3 : Nat) : Int) * (c : Int) = ((min n 3 * c : Nat) : Int) := by push_cast; rfl
  have he := cnt_eq c n
  intro f hf
  simp only [ff, List.mem_cons, List.not_mem_nil, or_false] at hf
  rcases hf with rfl | rfl | rfl | rfl | rfl | rfl | rfl | rfl | rfl
  · exact V.okv (k := .u8) (j := .i64) (n := n) Try.underlying5 rfl Try.underlying3 (by rw [wrs n (by omega)]; rfl)
  · exact V.okc (k := .i64) (m := n) (n := n) rfl rfl (V.c_eqlT rfl)
  · exact V.oka (k := .i64) (m := 1) (n := n) (r := 1 + n) rfl rfl (by simp only [V.ariI, V.wr_i64, Option.some.injEq]; omega) rfl
  · exact V.okm (k := .i64) (m := n) (n := 3) (r := (min n 3 : Nat)) rfl rfl (by simp only [V.mxI, Option.some.injEq]; split <;> omega) rfl
  · exact V.oka (k := .u8) (m := k) (n := 5) (r := c) rfl rfl (by simp only [V.ariI]; rw [if_neg (by omega), Int.tmod_eq_emod_of_nonneg (by omega)]; congr 1 <;> omega) rfl
  · exact V.okv (k := .u8) (j := .i64) (n := c) Try.underlying5 rfl Try.underlying3 (by rw [wrs c (by omega)]; rfl)
  · exact V.oka (k := .i64) (m := (min n 3 : Nat)) (n := c) (r := (min n 3 * c : Nat)) rfl rfl (by simp only [V.ariI, V.wr_i64, Option.some.injEq]; rw [hm2]; omega) rfl
  · exact V.oka (k := .i64) (m := 1 + n) (n := (min n 3 * c : Nat)) (r := (1 + n + min n 3 * c : Nat)) rfl rfl (by simp only [V.ariI, V.wr_i64, Option.some.injEq]; omega) rfl
  · exact V.okc (k := .i64) (m := cnt c n) (n := (1 + n + min n 3 * c : Nat)) rfl rfl (V.c_eqlT (by omega))

/-- the state at the head of the loop -/
def SL (c n k i : Nat) : V.St := ST (.int .u8 n) (.int .u8 k) (.int .i64 i) (cells c i)
theorem inS0 (c i n k : Nat) : V.inDs (sl c i n k) s0 = cells c i := by simp only [s0, V.inDs, V.inD, sl, cells]
theorem inHead (c i n k : Nat) : V.inS (sl c i n k) (ST (.sym 20) (.sym 21) (.sym 0) s0) = SL c n k i := by
  rw [inST, inS0]
  simp only [V.inD, sl, SL]
theorem round (c n k i : Nat) (hn : n < 256) (hi : i < n) (hk : k < 256) (hc : k % 5 = c) : @V.Run V.sig0 Try.prog b5 (SL c n k i) .normal (SL c n k (i + 1)) := by
  have hc5 : c < 5 := by omega
  by_cases h3 : i < 3
  · have hg : @V.Good (V.sigOf (sl c i n k)) Try.prog (ag i c) := @V.Good.mk (V.sigOf (sl c i n k)) _ _ named (@V.spec_of_tbl (V.sigOf (sl c i n k)) _ _ (V.TblOk.any tno to3)) (@V.orc_of (V.sigOf (sl c i n k)) _ _ (fsOk c i n k i hn hi h3 hk hc) _ rfl)
    have r := V.Run.ins (plainSl c i n k) (@V.Run.of_uptoD (V.sigOf (sl c i n k)) _ _ hg regs follows _ _ _ _ _ _ _ _ regs4.2.2.2.1.2 (runS i c h3 hc5))
    rw [inST, inST, inS0] at r
    have e : V.inDs (sl c i n k) [.int .i64 (kk (i + 1)), .int .i64 0, mt, .lst (sv :: List.replicate c bv), .nil] = cells c (i + 1) := by
      have hcc : cc c i = c := by simp [cc, h3]
      simp only [cells, ll, hcc, V.inDs, V.inD, sv, inReps, sl]
      rfl
    rw [e] at r
    exact r
  · have hcc : cc c i = 0 := by simp [cc, h3]
    have hp : i % 2 = 0 ∨ i % 2 = 1 := by omega
    rcases hp with hp | hp
    · have hg : @V.Good (V.sigOf (sl c i n k)) Try.prog (al 0) := @V.Good.mk (V.sigOf (sl c i n k)) _ _ named (@V.spec_of_tbl (V.sigOf (sl c i n k)) _ _ (V.TblOk.any tno to3)) (@V.orc_of (V.sigOf (sl c i n k)) _ _ (flOk c i n k 0 hn hi h3 (by omega)) _ rfl)
      have r := V.Run.ins (plainSl c i n k) (@V.Run.of_uptoD (V.sigOf (sl c i n k)) _ _ hg regs follows _ _ _ _ _ _ _ _ regs4.2.2.2.1.2 runL0)
      rw [inST, inST, inS0] at r
      have e : V.inDs (sl c i n k) [.int .i64 15, .int .i64 0, mt, .lst [sv], .nil] = cells c (i + 1) := by
        simp only [cells, ll, hcc, kk, hp, if_pos, V.inDs, V.inD, sv, sl, List.replicate]
        rfl
      rw [e] at r
      exact r
    · have hg : @V.Good (V.sigOf (sl c i n k)) Try.prog (al 1) := @V.Good.mk (V.sigOf (sl c i n k)) _ _ named (@V.spec_of_tbl (V.sigOf (sl c i n k)) _ _ (V.TblOk.any tno to3)) (@V.orc_of (V.sigOf (sl c i n k)) _ _ (flOk c i n k 1 hn hi h3 (by omega)) _ rfl)
      have r := V.Run.ins (plainSl c i n k) (@V.Run.of_uptoD (V.sigOf (sl c i n k)) _ _ hg regs follows _ _ _ _ _ _ _ _ regs4.2.2.2.1.2 runL1)
      rw [inST, inST, inS0] at r
      have e : V.inDs (sl c i n k) [.int .i64 14, .int .i64 0, mt, .lst [sv], .nil] = cells c (i + 1) := by
        have hp0 : ¬ i % 2 = 0 := by omega
        simp only [cells, ll, hcc, kk, if_neg hp0, V.inDs, V.inD, sv, sl, List.replicate]
        rfl
      rw [e] at r
      exact r
theorem rounds (c n k : Nat) (hn : n < 256) (hk : k < 256) (hc : k % 5 = c) : ∀ m i : Nat, i + m = n → @V.LRun V.sig0 Try.prog b5 (SL c n k i) (.exit 0) (SL c n k n) := by
  intro m
  induction m with
  | zero =>
    intro i hi
    obtain rfl : i = n := by omega
    have hg : @V.Good (V.sigOf (sl c i i k)) Try.prog ax := @V.Good.mk (V.sigOf (sl c i i k)) _ _ named (@V.spec_of_tbl (V.sigOf (sl c i i k)) _ _ (V.TblOk.any tno to3)) (@V.orc_of (V.sigOf (sl c i i k)) _ _ (fxOk c i k hn) _ rfl)
    have r := V.Run.ins (plainSl c i i k) (@V.Run.of_uptoD (V.sigOf (sl c i i k)) _ _ hg regs follows _ _ _ _ _ _ _ _ regs4.2.2.2.1.2 runX)
    rw [inHead] at r
    exact V.LRun.out r (by simp)
  | succ m ih =>
    intro i hi
    exact V.LRun.step (round c n k i hn (by omega) hk hc) (ih (i + 1) (by omega))
theorem goodL (c i n k : Nat) : @V.Good (V.sigOf (sl c i n k)) Try.prog an3 := @V.Good.mk (V.sigOf (sl c i n k)) _ _ named (@V.spec_of_tbl (V.sigOf (sl c i n k)) _ _ (V.TblOk.any tno to3)) (fun _ _ _ _ h => nomatch h)
theorem whole (n k : Nat) (hn : n < 256) (hk : k < 256) : @V.Run V.sig0 Try.prog c4 ⟨[.dat (.int .u8 n), .dat (.int .u8 k)] ++ List.replicate 61 .undef, [], 0⟩ .ret (SF (cells (k % 5) n)) := by
  have hc : k % 5 < 5 := by omega
  generalize hkc : k % 5 = c at hc
  obtain ⟨g0, g1, g3, ⟨g4, g5⟩, gp⟩ := regs4
  have hP := plainSl c 0 n k
  have h0 := V.Run.ins hP (@V.Run.of_exec (V.sigOf (sl c 0 n k)) _ _ (goodL c 0 n k) regs follows _ _ _ _ _ g0 run1)
  have h1 := V.Run.ins hP (@V.Run.of_exec (V.sigOf (sl c 0 n k)) _ _ (goodL c 0 n k) regs follows _ _ _ _ _ g1 run2)
  have h3 := V.Run.ins hP (@V.Run.of_exec (V.sigOf (sl c 0 n k)) _ _ (goodL c 0 n k) regs follows _ _ _ _ _ g3 run3)
  have h4 := V.Run.ins hP (@V.Run.of_uptoD (V.sigOf (sl c 0 n k)) _ _ (goodL c 0 n k) regs follows _ _ _ _ _ _ _ _ g4 run4)
  have e4 : V.inS (sl c 0 n k) (ST (.sym 20) (.sym 21) (.int .i64 0) (cells 0 0)) = SL c n k 0 := by
    rw [inST]
    simp only [V.inD, V.inDs, sl, SL, cells, ll]
    rfl
  rw [e4] at h4
  obtain ⟨hD, hC⟩ := deep c hc n (by omega)
  have hg : @V.Good (V.sigOf (sl c n n k)) Try.prog af := by
    have h1 : @V.Holds (V.sigOf (sl c n n k)) Try.prog 10 [sv] [.sym 6] := V.Holds.outs (plainSl c n n k) hD
    have h2 : @V.Holds (V.sigOf (sl c n n k)) Try.prog 11 [sv] [.sym 8] := V.Holds.outs (plainSl c n n k) hC
    letI : V.Sig := V.sigOf (sl c n n k)
    exact ⟨named, V.spec_of_tbl (V.TblOk.cons (V.RowOk.cons h1 V.RowOk.nil) (V.TblOk.cons (V.RowOk.cons h2 V.RowOk.nil) V.TblOk.nil)), V.orc_of (ffOk c n k hn hk hkc) rfl⟩
  have hF := V.Run.ins (plainSl c n n k) (@V.Run.of_uptoD (V.sigOf (sl c n n k)) _ _ hg regs follows _ _ _ _ _ _ _ _ gp runF)
  rw [inHead, inSF, inS0] at hF
  have hL := V.Run.block_to (V.Run.loop (rounds c n k hn hk hkc n 0 (by omega)))
  rw [shape4]
  have e0 : V.inS (sl c 0 n k) z0 = ⟨[.dat (.int .u8 n), .dat (.int .u8 k)] ++ List.replicate 61 .undef, [], 0⟩ := by
    simp only [z0, V.inS, V.inUs_eq, List.map_append, List.map_cons, List.map_nil, V.inU, V.inD, sl, List.map_replicate, V.inSt]
  rw [e0] at h0
  exact V.Run.seq h0 (V.Run.seq h1 (V.Run.seq h3 (V.Run.seq (V.Run.seq h4 hL) hF)))
theorem MeasureLists (W : World) (a0 : Int) (a1 : Int) (w0 : (Lit.int .u8 a0).wf = true) (w1 : (Lit.int .u8 a1).wf = true) : Calls Try.prog 4 #[.int .u8 a0, .int .u8 a1] W (fun e W' => e = .returned (.bool true) ∧ Below W.heap.size W W') := by
  have b0 := V.wf_int w0
  have b1 := V.wf_int w1
  simp only [IntKind.min, IntKind.max, IntKind.signed, IntKind.bits, Bool.false_eq_true, if_false] at b0 b1
  obtain ⟨n, rfl⟩ : ∃ n : Nat, a0 = n := ⟨a0.toNat, by omega⟩
  obtain ⟨k, rfl⟩ : ∃ k : Nat, a1 = k := ⟨a1.toNat, by omega⟩
  exact V.law_of_run (us0 := [.dat (.int .u8 n), .dat (.int .u8 k)]) Try.func4 body4 (whole n k (by omega) (by omega)) (.inr rfl) (by rfl) (V.args_cons (.int _ _) (V.args_cons (.int _ _) V.args_nil))
end Go.Proofs.Ytdgihefkagoicaa.Say
