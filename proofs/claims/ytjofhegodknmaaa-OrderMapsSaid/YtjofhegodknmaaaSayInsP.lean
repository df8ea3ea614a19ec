/- Insertion of elements into a row's sorted front, by a function that compares: what the row holds then. Mine. -/
import Derived.Test.YtjofhegodknmaaaSayBase
import Derived.Test.YtjofhegodknmaaaOrd
set_option linter.unusedVariables false
set_option linter.unusedSimpArgs false
namespace Go.Proofs.Ytjofhegodknmaaa.SayP
open Go Go.RowKit
open V (D)
open Say

theorem rowT : V.RowT Try.prog 150 152 10 160 true := ⟨by kernel_rfl, by kernel_rfl, by kernel_rfl, by kernel_rfl, by decide, by decide⟩
noncomputable def iA : Code := match Try.f131.body with
  | some c => c
  | none => .skip
noncomputable def i0 : Code := cf iA
noncomputable def oL : Code := cb (cb (cs iA))
noncomputable def i1 : Code := cf (cf oL)
noncomputable def oB : Code := cb (cf (cs oL))
noncomputable def i3 : Code := cf oB
noncomputable def nL : Code := cb (cb (cs oB))
noncomputable def i2 : Code := cs (cs oL)
noncomputable def i4 : Code := cf (cf nL)
noncomputable def i6 : Code := cb (cf (cs nL))
noncomputable def i5 : Code := cs (cs nL)
theorem bodyI : Try.f131.body = some iA := by kernel_rfl
theorem shapeI : iA = .seq i0 (.block 0 (.loop oL)) := by kernel_rfl
theorem shapeO : oL = .seq (.seq i1 (.cond (.tmp 14) .skip (.exit 0))) (.seq (.block 1 (.seq i3 (.block 2 (.loop nL)))) i2) := by kernel_rfl
theorem shapeN : nL = .seq (.seq i4 (.cond (.tmp 34) .skip (.exit 2))) (.seq (.block 3 i6) i5) := by kernel_rfl
theorem regsI : V.Regs i0 ∧ V.Regs oL := by
  have h := regs 131 Try.f131 iA Try.func131 bodyI
  rw [shapeI] at h
  exact h
theorem regsO : (V.Regs i1 ∧ V.Regs .skip ∧ V.Regs (.exit 0)) ∧ (V.Regs i3 ∧ V.Regs nL) ∧ V.Regs i2 := by
  have h := regsI.2
  rw [shapeO] at h
  exact h
theorem regsN : (V.Regs i4 ∧ V.Regs .skip ∧ V.Regs (.exit 2)) ∧ V.Regs i6 ∧ V.Regs i5 := by
  have h := regsO.2.1.2
  rw [shapeN] at h
  exact h
theorem e0 : i0 = .region 0 (ops i0) false := by kernel_rfl
theorem e1 : i1 = .region 1 (ops i1) false := by kernel_rfl
theorem e2 : i2 = .region 2 (ops i2) false := by kernel_rfl
theorem e3 : i3 = .region 3 (ops i3) false := by kernel_rfl
theorem e4 : i4 = .region 4 (ops i4) true := by kernel_rfl
theorem e5 : i5 = .region 5 (ops i5) false := by kernel_rfl
theorem e6 : i6 = .region 6 (ops i6) true := by kernel_rfl

/-! States. -/
def row (g : Nat) (css : List (List D)) : V.Obj := V.rowOf 152 10 true g css
theorem row_refs (g : Nat) (css : List (List D)) : V.refsL (row g css).cells = [] := V.refsL_dats _
def TT (n g : Nat) (F i j t14 t34 : V.U) : List V.U := [.own 192 g 0 n, .dat (.int .i64 0), .dat (.int .i64 n), F, .junk, .junk, .junk, .junk, i, j, .junk, .junk, .junk, .junk, t14] ++ List.replicate 19 .junk ++ [t34] ++ List.replicate 18 .junk
def SS (g nx : Nat) (F : V.U) (css : List (List D)) (i j t14 t34 : V.U) : V.St := ⟨TT css.length g F i j t14 t34, [(192, row g css)], nx⟩
def kI : List Bool := [true, true, true, true, false, false, false, false, true]
def kJ : List Bool := [true, true, true, true, false, false, false, false, true, true]
def k14 : List Bool := kI ++ [false, false, false, false, false, true]
def k34 : List Bool := kJ ++ [false, false, false, false, false] ++ List.replicate 19 false ++ [true]
def iv (i : Nat) : V.U := .dat (.int .i64 i)
def fnU (f : Nat) : V.U := .dat (.fn f [])
section
variable {an : V.An} {g nx f : Nat} {css : List (List D)}
theorem ins1 (hx : 192 < nx) (i : Nat) (r : Bool) (hr : V.cmpI .lss (i : Int) (css.length : Int) = some r) (j : V.U) : V.Run Try.prog i1 (SS g nx (fnU f) css (iv i) .junk .junk .junk) .normal (SS g nx (fnU f) css (iv i) .junk (.dat (.bool r)) .junk) := by
  rw [e1]
  apply V.Run.stepsL (goodE _) regs follows (keep := k14) (ids := [192]) (nx := nx) (by rw [← e1]; exact regsO.1.1)
  · apply V.Steps.auto; kernel_rfl; kernel_rfl; kernel_rfl; kernel_rfl
    apply V.Steps.auto; kernel_rfl; kernel_rfl; kernel_rfl; kernel_rfl
    apply V.Steps.op; kernel_rfl; kernel_rfl; kernel_rfl; exact ((V.st_cmp (op := .lss) (x := .tmp 12) (y := .tmp 13) (k := .i64) (m := (i : Int)) (n := (css.length : Int)) (r := r) (by kernel_rfl) (by kernel_rfl) (by kernel_rfl) hr))
    exact V.Steps.done (by kernel_rfl) rfl
  · rfl
  · exact V.AllKept.cons (ob := row g css) (by kernel_rfl) (congrArg (fun l => List.all l _) (row_refs g css)) V.AllKept.nil
  · kernel_rfl
  · kernel_rfl
  · simp [hx]
  · kernel_rfl
theorem ins2 (hx : 192 < nx) (i : Nat) (hi : i < 1000000000) (j : V.U) : V.Run Try.prog i2 (SS g nx (fnU f) css (iv i) j .junk (.dat (.bool false))) .normal (SS g nx (fnU f) css (iv (i + 1)) .junk .junk .junk) := by
  rw [e2]
  apply V.Run.stepsL (goodE _) regs follows (keep := kI) (ids := [192]) (nx := nx) (by rw [← e2]; exact regsO.2.2)
  · apply V.Steps.auto; kernel_rfl; kernel_rfl; kernel_rfl; kernel_rfl
    apply V.Steps.op; kernel_rfl; kernel_rfl; kernel_rfl; exact ((V.st_ari (op := .add) (x := .tmp 15) (y := .const (.int .i64 1)) (k := .i64) (m := (i : Int)) (n := 1) (r := ((i + 1 : Nat) : Int)) (by kernel_rfl) (by kernel_rfl) (by kernel_rfl) (by simp only [V.ariI, V.wr_i64, Option.some.injEq]; omega)))
    apply V.Steps.auto; kernel_rfl; kernel_rfl; kernel_rfl; kernel_rfl
    exact V.Steps.done (by kernel_rfl) rfl
  · rfl
  · exact V.AllKept.cons (ob := row g css) (by kernel_rfl) (congrArg (fun l => List.all l _) (row_refs g css)) V.AllKept.nil
  · kernel_rfl
  · kernel_rfl
  · simp [hx]
  · kernel_rfl
theorem ins3 (hx : 192 < nx) (i : Nat) : V.Run Try.prog i3 (SS g nx (fnU f) css (iv i) .junk (.dat (.bool true)) .junk) .normal (SS g nx (fnU f) css (iv i) (iv i) .junk .junk) := by
  rw [e3]
  apply V.Run.stepsL (goodE _) regs follows (keep := kJ) (ids := [192]) (nx := nx) (by rw [← e3]; exact regsO.2.1.1)
  · apply V.Steps.auto; kernel_rfl; kernel_rfl; kernel_rfl; kernel_rfl
    apply V.Steps.auto; kernel_rfl; kernel_rfl; kernel_rfl; kernel_rfl
    exact V.Steps.done (by kernel_rfl) rfl
  · rfl
  · exact V.AllKept.cons (ob := row g css) (by kernel_rfl) (congrArg (fun l => List.all l _) (row_refs g css)) V.AllKept.nil
  · kernel_rfl
  · kernel_rfl
  · simp [hx]
  · kernel_rfl
theorem ins5 (hx : 192 < nx) (i j : Nat) (hj : j < 1000000000) : V.Run Try.prog i5 (SS g nx (fnU f) css (iv i) (iv (j + 1)) .junk .junk) .normal (SS g nx (fnU f) css (iv i) (iv j) .junk .junk) := by
  rw [e5]
  apply V.Run.stepsL (goodE _) regs follows (keep := kJ) (ids := [192]) (nx := nx) (by rw [← e5]; exact regsN.2.2)
  · apply V.Steps.auto; kernel_rfl; kernel_rfl; kernel_rfl; kernel_rfl
    apply V.Steps.op; kernel_rfl; kernel_rfl; kernel_rfl; exact ((V.st_ari (op := .sub) (x := .tmp 35) (y := .const (.int .i64 1)) (k := .i64) (m := ((j + 1 : Nat) : Int)) (n := 1) (r := (j : Int)) (by kernel_rfl) (by kernel_rfl) (by kernel_rfl) (by simp only [V.ariI, V.wr_i64, Option.some.injEq]; omega)))
    apply V.Steps.auto; kernel_rfl; kernel_rfl; kernel_rfl; kernel_rfl
    exact V.Steps.done (by kernel_rfl) rfl
  · rfl
  · exact V.AllKept.cons (ob := row g css) (by kernel_rfl) (congrArg (fun l => List.all l _) (row_refs g css)) V.AllKept.nil
  · kernel_rfl
  · kernel_rfl
  · simp [hx]
  · kernel_rfl
/-- at the front no one is looked at -/
theorem ins4z (hx : 192 < nx) (i : Nat) : V.Run Try.prog i4 (SS g nx (fnU f) css (iv i) (iv 0) .junk .junk) .normal (SS g nx (fnU f) css (iv i) (iv 0) .junk (.dat (.bool false))) := by
  rw [e4]
  apply V.Run.stepsTL (goodE _) regs follows (keep := k34) (ids := [192]) (nx := nx) (by rw [← e4]; exact regsN.1.1)
  · apply V.StepsT.auto; kernel_rfl; kernel_rfl; kernel_rfl; kernel_rfl
    apply V.StepsT.auto; kernel_rfl; kernel_rfl; kernel_rfl; kernel_rfl
    apply V.StepsT.auto; kernel_rfl; kernel_rfl; kernel_rfl; kernel_rfl
    apply V.StepsT.auto; kernel_rfl; kernel_rfl; kernel_rfl; kernel_rfl
    apply V.StepsT.skip; kernel_rfl; kernel_rfl
    apply V.StepsT.skip; kernel_rfl; kernel_rfl
    apply V.StepsT.skip; kernel_rfl; kernel_rfl
    apply V.StepsT.skip; kernel_rfl; kernel_rfl
    apply V.StepsT.skip; kernel_rfl; kernel_rfl
    apply V.StepsT.skip; kernel_rfl; kernel_rfl
    apply V.StepsT.skip; kernel_rfl; kernel_rfl
    apply V.StepsT.skip; kernel_rfl; kernel_rfl
    apply V.StepsT.skip; kernel_rfl; kernel_rfl
    apply V.StepsT.skip; kernel_rfl; kernel_rfl
    apply V.StepsT.skip; kernel_rfl; kernel_rfl
    apply V.StepsT.skip; kernel_rfl; kernel_rfl
    apply V.StepsT.auto; kernel_rfl; kernel_rfl; kernel_rfl; kernel_rfl
    exact V.StepsT.done (by kernel_rfl) rfl
  · kernel_rfl
  · rfl
  · exact V.AllKept.cons (ob := row g css) (by kernel_rfl) (congrArg (fun l => List.all l _) (row_refs g css)) V.AllKept.nil
  · kernel_rfl
  · kernel_rfl
  · simp [hx]
  · kernel_rfl
/-- what is known: what the function says of two elements -/
def anC (sp : Nat → List D → Option (List D)) : V.An := { anE with spec := sp }
def elD (c : List D) : D := V.elD true c
abbrev Els (css : List (List D)) : Prop := V.Els 10 true css
theorem ins4 {sp : Nat → List D → Option (List D)} (hb : V.isBody Try.prog f = true) (hN : V.Good Try.prog (anC sp)) (hx : 192 < nx) (he : Els css) (hl : css.length < 1000000000) (i q : Nat) {c0 c1 : List D} (h0 : css[q]? = some c0) (h1 : css[q + 1]? = some c1) {v : Int} (hs : sp f [elD c1, elD c0] = some [.int .i64 v]) {r : Bool} (hr : V.cmpI .lss v 0 = some r) :
    V.Run Try.prog i4 (SS g nx (fnU f) css (iv i) (iv (q + 1)) .junk .junk) .normal (SS g nx (fnU f) css (iv i) (iv (q + 1)) .junk (.dat (.bool r))) := by
  have hq1 : q + 1 < css.length := (List.getElem?_eq_some_iff.1 h1).1
  rw [e4]
  apply V.Run.stepsTL hN regs follows (keep := k34) (ids := [192]) (nx := nx) (by rw [← e4]; exact regsN.1.1)
  · apply V.StepsT.auto; kernel_rfl; kernel_rfl; kernel_rfl; kernel_rfl
    apply V.StepsT.auto; kernel_rfl; kernel_rfl; kernel_rfl; kernel_rfl
    apply V.StepsT.op; kernel_rfl; kernel_rfl; kernel_rfl; exact ((V.st_cmp (op := .gtr) (x := .tmp 18) (y := .tmp 19) (k := .i64) (m := ((q + 1 : Nat) : Int)) (n := 0) (r := true) (by kernel_rfl) (by kernel_rfl) (by kernel_rfl) (V.c_gtrT (by omega))))
    apply V.StepsT.auto; kernel_rfl; kernel_rfl; kernel_rfl; kernel_rfl
    apply V.StepsT.auto; kernel_rfl; kernel_rfl; kernel_rfl; kernel_rfl
    apply V.StepsT.auto; kernel_rfl; kernel_rfl; kernel_rfl; kernel_rfl
    apply V.StepsT.auto; kernel_rfl; kernel_rfl; kernel_rfl; kernel_rfl
    apply V.StepsT.op; kernel_rfl; kernel_rfl; kernel_rfl; exact ((Eq.trans (b := V.opIndexAddr Try.prog (V.getO [(192, row g css)]) 150 (.own 192 g 0 css.length) (iv (q + 1))) (by kernel_rfl) (V.st_addrR (css := css) rowT rfl hq1)))
    apply V.StepsT.op; kernel_rfl; kernel_rfl; kernel_rfl; exact ((Eq.trans (b := V.opLoad Try.prog (V.getO [(192, row g css)]) 152 (.ptr 192 g ((q + 1) * 10))) (by kernel_rfl) (V.st_loadR (css := css) rowT he rfl h1)))
    apply V.StepsT.auto; kernel_rfl; kernel_rfl; kernel_rfl; kernel_rfl
    apply V.StepsT.auto; kernel_rfl; kernel_rfl; kernel_rfl; kernel_rfl
    apply V.StepsT.op; kernel_rfl; kernel_rfl; kernel_rfl; exact ((V.st_ari (op := .sub) (x := .tmp 28) (y := .const (.int .i64 1)) (k := .i64) (m := ((q + 1 : Nat) : Int)) (n := 1) (r := (q : Int)) (by kernel_rfl) (by kernel_rfl) (by kernel_rfl) (by simp only [V.ariI, V.wr_i64, Option.some.injEq]; omega)))
    apply V.StepsT.op; kernel_rfl; kernel_rfl; kernel_rfl; exact ((Eq.trans (b := V.opIndexAddr Try.prog (V.getO [(192, row g css)]) 150 (.own 192 g 0 css.length) (iv q)) (by kernel_rfl) (V.st_addrR (css := css) rowT rfl (by omega))))
    apply V.StepsT.op; kernel_rfl; kernel_rfl; kernel_rfl; exact ((Eq.trans (b := V.opLoad Try.prog (V.getO [(192, row g css)]) 152 (.ptr 192 g (q * 10))) (by kernel_rfl) (V.st_loadR (css := css) rowT he rfl h0)))
    apply V.StepsT.step; kernel_rfl; kernel_rfl; exact ((fun k => V.oper_spec (an := anC sp) (fo := .tmp 22) (xs := [.tmp 26, .tmp 31]) (us := [.dat (elD c1), .dat (elD c0)]) (caps := []) (n := f) (ds := [(elD c1, []), (elD c0, [])]) (rs := [.int .i64 v]) (by kernel_rfl) (V.step_call (fo := .tmp 22) (xs := [.tmp 26, .tmp 31]) (n := f) (caps := []) (by kernel_rfl) (by kernel_rfl) hb) (by kernel_rfl) (by kernel_rfl) (by kernel_rfl) (by kernel_rfl) (by kernel_rfl) hs))
    apply V.StepsT.op; kernel_rfl; kernel_rfl; kernel_rfl; exact ((V.st_cmp (op := .lss) (x := .tmp 32) (y := .const (.int .i64 0)) (k := .i64) (m := v) (n := 0) (r := r) (by kernel_rfl) (by kernel_rfl) (by kernel_rfl) hr))
    apply V.StepsT.auto; kernel_rfl; kernel_rfl; kernel_rfl; kernel_rfl
    exact V.StepsT.done (by kernel_rfl) rfl
  · kernel_rfl
  · rfl
  · exact V.AllKept.cons (ob := row g css) (by kernel_rfl) (congrArg (fun l => List.all l _) (row_refs g css)) V.AllKept.nil
  · kernel_rfl
  · kernel_rfl
  · simp [hx]
  · kernel_rfl
theorem ins6 (hx : 192 < nx) (he : Els css) (hl : css.length < 1000000000) (i q : Nat) {c0 c1 : List D} (h0 : css[q]? = some c0) (h1 : css[q + 1]? = some c1) :
    V.Run Try.prog i6 (SS g nx (fnU f) css (iv i) (iv (q + 1)) .junk (.dat (.bool true))) .normal (SS g nx (fnU f) (Ord.swp q c0 c1 css) (iv i) (iv (q + 1)) .junk .junk) := by
  have hq1 : q + 1 < css.length := (List.getElem?_eq_some_iff.1 h1).1
  have m0 := List.mem_of_getElem? h0
  have m1 := List.mem_of_getElem? h1
  have he' : Els (css.set (q + 1) c0) := V.Els.set he (he.len c0 m0) (he.one c0 m0)
  rw [e6]
  apply V.Run.stepsTL (goodE _) regs follows (keep := kJ) (ids := [192]) (nx := nx) (by rw [← e6]; exact regsN.2.1)
  · apply V.StepsT.auto; kernel_rfl; kernel_rfl; kernel_rfl; kernel_rfl
    apply V.StepsT.auto; kernel_rfl; kernel_rfl; kernel_rfl; kernel_rfl
    apply V.StepsT.auto; kernel_rfl; kernel_rfl; kernel_rfl; kernel_rfl
    apply V.StepsT.auto; kernel_rfl; kernel_rfl; kernel_rfl; kernel_rfl
    apply V.StepsT.op; kernel_rfl; kernel_rfl; kernel_rfl; exact ((V.st_ari (op := .sub) (x := .tmp 40) (y := .const (.int .i64 1)) (k := .i64) (m := ((q + 1 : Nat) : Int)) (n := 1) (r := (q : Int)) (by kernel_rfl) (by kernel_rfl) (by kernel_rfl) (by simp only [V.ariI, V.wr_i64, Option.some.injEq]; omega)))
    apply V.StepsT.auto; kernel_rfl; kernel_rfl; kernel_rfl; kernel_rfl
    apply V.StepsT.auto; kernel_rfl; kernel_rfl; kernel_rfl; kernel_rfl
    apply V.StepsT.op; kernel_rfl; kernel_rfl; kernel_rfl; exact ((V.st_ari (op := .sub) (x := .tmp 43) (y := .const (.int .i64 1)) (k := .i64) (m := ((q + 1 : Nat) : Int)) (n := 1) (r := (q : Int)) (by kernel_rfl) (by kernel_rfl) (by kernel_rfl) (by simp only [V.ariI, V.wr_i64, Option.some.injEq]; omega)))
    apply V.StepsT.op; kernel_rfl; kernel_rfl; kernel_rfl; exact ((Eq.trans (b := V.opIndexAddr Try.prog (V.getO [(192, row g css)]) 150 (.own 192 g 0 css.length) (iv q)) (by kernel_rfl) (V.st_addrR (css := css) rowT rfl (by omega))))
    apply V.StepsT.op; kernel_rfl; kernel_rfl; kernel_rfl; exact ((Eq.trans (b := V.opLoad Try.prog (V.getO [(192, row g css)]) 152 (.ptr 192 g (q * 10))) (by kernel_rfl) (V.st_loadR (css := css) rowT he rfl h0)))
    apply V.StepsT.auto; kernel_rfl; kernel_rfl; kernel_rfl; kernel_rfl
    apply V.StepsT.auto; kernel_rfl; kernel_rfl; kernel_rfl; kernel_rfl
    apply V.StepsT.op; kernel_rfl; kernel_rfl; kernel_rfl; exact ((Eq.trans (b := V.opIndexAddr Try.prog (V.getO [(192, row g css)]) 150 (.own 192 g 0 css.length) (iv (q + 1))) (by kernel_rfl) (V.st_addrR (css := css) rowT rfl hq1)))
    apply V.StepsT.op; kernel_rfl; kernel_rfl; kernel_rfl; exact ((Eq.trans (b := V.opLoad Try.prog (V.getO [(192, row g css)]) 152 (.ptr 192 g ((q + 1) * 10))) (by kernel_rfl) (V.st_loadR (css := css) rowT he rfl h1)))
    apply V.StepsT.op; kernel_rfl; kernel_rfl; kernel_rfl; exact ((Eq.trans (b := V.opIndexAddr Try.prog (V.getO [(192, row g css)]) 150 (.own 192 g 0 css.length) (iv (q + 1))) (by kernel_rfl) (V.st_addrR (css := css) rowT rfl hq1)))
    apply V.StepsT.op; kernel_rfl; kernel_rfl; kernel_rfl; exact ((Eq.trans (b := V.opStore Try.prog (V.getO [(192, row g css)]) 152 (.ptr 192 g ((q + 1) * 10)) (.dat (elD c0))) (by kernel_rfl) (V.st_storeR (css := css) rowT he rfl (he.len c0 m0) (he.one c0 m0) hq1)))
    apply V.StepsT.op; kernel_rfl; kernel_rfl; kernel_rfl; exact ((Eq.trans (b := V.opIndexAddr Try.prog (V.getO [(192, row g (css.set (q + 1) c0))]) 150 (.own 192 g 0 css.length) (iv q)) (by kernel_rfl) (V.st_addrR (css := css.set (q + 1) c0) rowT rfl (by omega))))
    apply V.StepsT.op; kernel_rfl; kernel_rfl; kernel_rfl; exact ((Eq.trans (b := V.opStore Try.prog (V.getO [(192, row g (css.set (q + 1) c0))]) 152 (.ptr 192 g (q * 10)) (.dat (elD c1))) (by kernel_rfl) (V.st_storeR (css := css.set (q + 1) c0) rowT he' rfl (he.len c1 m1) (he.one c1 m1) (by simp; omega))))
    exact V.StepsT.done (by kernel_rfl) rfl
  · kernel_rfl
  · rfl
  · exact V.AllKept.cons (ob := row g (Ord.swp q c0 c1 css)) (by kernel_rfl) (congrArg (fun l => List.all l _) (row_refs g _)) V.AllKept.nil
  · kernel_rfl
  · kernel_rfl
  · simp [hx]
  · exact Eq.trans (b := TT css.length g (fnU f) (iv i) (iv (q + 1)) .junk .junk) (by kernel_rfl) (congrArg (fun n => TT n g (fnU f) (iv i) (iv (q + 1)) .junk .junk) (Ord.swp_len q c0 c1 css).symm)
theorem swp_els {q : Nat} {c0 c1 : List D} (he : Els css) (h0 : css[q]? = some c0) (h1 : css[q + 1]? = some c1) : Els (Ord.swp q c0 c1 css) :=
  V.Els.set (V.Els.set he (he.len c0 (List.mem_of_getElem? h0)) (he.one c0 (List.mem_of_getElem? h0))) (he.len c1 (List.mem_of_getElem? h1)) (he.one c1 (List.mem_of_getElem? h1))
theorem swp_mem {q : Nat} {c0 c1 : List D} (h0 : css[q]? = some c0) (h1 : css[q + 1]? = some c1) : ∀ c ∈ Ord.swp q c0 c1 css, c ∈ css := by
  intro c hc
  rcases List.mem_or_eq_of_mem_set hc with hc | rfl
  · rcases List.mem_or_eq_of_mem_set hc with hc | rfl
    · exact hc
    · exact List.mem_of_getElem? h0
  · exact List.mem_of_getElem? h1
/-- what the function says of elements -/
structure Says (sp : Nat → List D → Option (List D)) (f : Nat) (cc : List D → List D → Int) (css : List (List D)) : Prop where
  says : ∀ x ∈ css, ∀ y ∈ css, sp f [elD x, elD y] = some [.int .i64 (cc x y)]
end
section
variable {sp : Nat → List D → Option (List D)} {g nx f : Nat} {cc : List D → List D → Int}
theorem nLoop (hb : V.isBody Try.prog f = true) (hN : V.Good Try.prog (anC sp)) (hx : 192 < nx) (i : Nat) : ∀ (q : Nat) (css : List (List D)), Els css → css.length < 1000000000 → Says sp f cc css → q < css.length →
    ∃ j', V.LRun Try.prog nL (SS g nx (fnU f) css (iv i) (iv q) .junk .junk) (.exit 2) (SS g nx (fnU f) (Ord.sink cc q css) (iv i) j' .junk (.dat (.bool false))) := by
  intro q
  induction q with
  | zero =>
    intro css he hl hs hq
    have r4 := ins4z (g := g) (nx := nx) (f := f) (css := css) hx i
    have rc : V.Run Try.prog (.cond (.tmp 34) .skip (.exit 2)) (SS g nx (fnU f) css (iv i) (iv 0) .junk (.dat (.bool false))) (.exit 2) _ := V.Run.cond_false rfl (V.Run.exit (goodE V.sig0) regs follows)
    refine ⟨iv 0, ?_⟩
    rw [shapeN]
    exact V.LRun.out (V.Run.seq_out (V.Run.seq r4 rc) (by simp)) (by simp)
  | succ q ih =>
    intro css he hl hs hq
    obtain ⟨c0, h0⟩ : ∃ c, css[q]? = some c := ⟨_, List.getElem?_eq_getElem (by omega)⟩
    obtain ⟨c1, h1⟩ : ∃ c, css[q + 1]? = some c := ⟨_, List.getElem?_eq_getElem hq⟩
    have hsp := hs.says c1 (List.mem_of_getElem? h1) c0 (List.mem_of_getElem? h0)
    by_cases hlt : cc c1 c0 < 0
    · have r4 := ins4 (g := g) (nx := nx) hb hN hx he hl i q h0 h1 hsp (V.c_lssT hlt)
      have rc : V.Run Try.prog (.cond (.tmp 34) .skip (.exit 2)) (SS g nx (fnU f) css (iv i) (iv (q + 1)) .junk (.dat (.bool true))) .normal _ := V.Run.cond_true rfl (V.Run.skip (goodE V.sig0) regs follows)
      have r6 := ins6 (g := g) (nx := nx) (f := f) hx he hl i q h0 h1
      have r5 := ins5 (g := g) (nx := nx) (f := f) (css := Ord.swp q c0 c1 css) hx i q (by omega)
      obtain ⟨j', hL⟩ := ih (Ord.swp q c0 c1 css) (swp_els he h0 h1) (by rw [Ord.swp_len]; exact hl) ⟨fun x hx y hy => hs.says x (swp_mem h0 h1 x hx) y (swp_mem h0 h1 y hy)⟩ (by rw [Ord.swp_len]; omega)
      refine ⟨j', ?_⟩
      have e : Ord.sink cc (q + 1) css = Ord.sink cc q (Ord.swp q c0 c1 css) := by
        rw [Ord.sink]
        simp only [h0, h1, if_pos hlt]
      rw [e]
      refine V.LRun.step ?_ hL
      rw [shapeN]
      exact V.Run.seq (V.Run.seq r4 rc) (V.Run.seq (V.Run.block (id := 3) r6) r5)
    · have r4 := ins4 (g := g) (nx := nx) hb hN hx he hl i q h0 h1 hsp (V.c_lssF (by omega))
      have rc : V.Run Try.prog (.cond (.tmp 34) .skip (.exit 2)) (SS g nx (fnU f) css (iv i) (iv (q + 1)) .junk (.dat (.bool false))) (.exit 2) _ := V.Run.cond_false rfl (V.Run.exit (goodE V.sig0) regs follows)
      have e : Ord.sink cc (q + 1) css = css := by
        rw [Ord.sink]
        simp only [h0, h1, if_neg hlt]
      refine ⟨iv (q + 1), ?_⟩
      rw [e, shapeN]
      exact V.LRun.out (V.Run.seq_out (V.Run.seq r4 rc) (by simp)) (by simp)
theorem sink_mem : ∀ (q : Nat) (css : List (List D)), ∀ c ∈ Ord.sink cc q css, c ∈ css := by
  intro q
  induction q with
  | zero => intro css c h; exact h
  | succ q ih =>
    intro css c h
    unfold Ord.sink at h
    split at h
    · rename_i c0 c1 h0 h1
      split at h
      · exact swp_mem h0 h1 c (ih _ c h)
      · exact h
    · exact h
theorem sink_els {css : List (List D)} (he : Els css) (q : Nat) : Els (Ord.sink cc q css) :=
  ⟨fun c hc => he.len c (sink_mem q css c hc), fun c hc => he.one c (sink_mem q css c hc), he.fin⟩
theorem oLoop (hb : V.isBody Try.prog f = true) (hN : V.Good Try.prog (anC sp)) (hx : 192 < nx) : ∀ (m i : Nat) (css : List (List D)), Els css → css.length < 1000000000 → Says sp f cc css → css.length ≤ i + m → (m = 0 ∨ i + m = css.length) → i < 1000000000 →
    ∃ i', V.LRun Try.prog oL (SS g nx (fnU f) css (iv i) .junk .junk .junk) (.exit 0) (SS g nx (fnU f) (Ord.isort cc m i css) i' .junk (.dat (.bool false)) .junk) := by
  intro m
  induction m with
  | zero =>
    intro i css he hl hs hi hm hib
    have r1 := ins1 (g := g) (nx := nx) (f := f) (css := css) hx i false (V.c_lssF (by omega)) .junk
    have rc : V.Run Try.prog (.cond (.tmp 14) .skip (.exit 0)) (SS g nx (fnU f) css (iv i) .junk (.dat (.bool false)) .junk) (.exit 0) _ := V.Run.cond_false rfl (V.Run.exit (goodE V.sig0) regs follows)
    refine ⟨iv i, ?_⟩
    rw [Ord.isort, shapeO]
    exact V.LRun.out (V.Run.seq_out (V.Run.seq r1 rc) (by simp)) (by simp)
  | succ m ih =>
    intro i css he hl hs hi hm hib
    have r1 := ins1 (g := g) (nx := nx) (f := f) (css := css) hx i true (V.c_lssT (by omega)) .junk
    have rc : V.Run Try.prog (.cond (.tmp 14) .skip (.exit 0)) (SS g nx (fnU f) css (iv i) .junk (.dat (.bool true)) .junk) .normal _ := V.Run.cond_true rfl (V.Run.skip (goodE V.sig0) regs follows)
    have r3 := ins3 (g := g) (nx := nx) (f := f) (css := css) hx i
    obtain ⟨j', hL⟩ := nLoop (g := g) hb hN hx i i css he hl hs (by omega)
    have hlen := Ord.sink_len cc i css
    have r2 := ins2 (g := g) (nx := nx) (f := f) (css := Ord.sink cc i css) hx i (by omega) j'
    obtain ⟨i', hO⟩ := ih (i + 1) (Ord.sink cc i css) (sink_els he i) (by rw [hlen]; exact hl) ⟨fun x hx y hy => hs.says x (sink_mem i css x hx) y (sink_mem i css y hy)⟩ (by rw [hlen]; omega) (by rw [hlen]; omega) (by omega)
    refine ⟨i', ?_⟩
    rw [Ord.isort]
    refine V.LRun.step ?_ hO
    rw [shapeO]
    exact V.Run.seq (V.Run.seq r1 rc) (V.Run.seq (V.Run.block (id := 1) (V.Run.seq r3 (V.Run.block_to (V.Run.loop hL)))) r2)
def S0 (g nx : Nat) (F : V.U) (css : List (List D)) : V.St := ⟨[.own 192 g 0 css.length, .dat (.int .i64 0), .dat (.int .i64 css.length), F] ++ List.replicate 49 .undef, [(192, row g css)], nx⟩
theorem ins0 {css : List (List D)} (hx : 192 < nx) : V.Run Try.prog i0 (S0 g nx (fnU f) css) .normal (SS g nx (fnU f) css (iv 1) .junk .junk .junk) := by
  rw [e0]
  apply V.Run.stepsL (goodE _) regs follows (keep := kI) (ids := [192]) (nx := nx) (by rw [← e0]; exact regsI.1)
  · apply V.Steps.auto; kernel_rfl; kernel_rfl; kernel_rfl; kernel_rfl
    apply V.Steps.auto; kernel_rfl; kernel_rfl; kernel_rfl; kernel_rfl
    apply V.Steps.auto; kernel_rfl; kernel_rfl; kernel_rfl; kernel_rfl
    exact V.Steps.done (by kernel_rfl) rfl
  · rfl
  · exact V.AllKept.cons (ob := row g css) (by kernel_rfl) (congrArg (fun l => List.all l _) (row_refs g css)) V.AllKept.nil
  · kernel_rfl
  · kernel_rfl
  · simp [hx]
  · kernel_rfl
/-- a row, in order -/
def sorted (cc : List D → List D → Int) (css : List (List D)) : List (List D) := Ord.isort cc (css.length - 1) 1 css
theorem insHolds {css : List (List D)} (hb : V.isBody Try.prog f = true) (hN : V.Good Try.prog (anC sp)) (hx : 192 < nx) (he : Els css) (hl : css.length < 1000000000) (hs : Says sp f cc css) :
    @V.CallHolds V.sig0 Try.prog 131 [.own 192 g 0 css.length, .dat (.int .i64 0), .dat (.int .i64 css.length), fnU f] [(192, row g css)] nx (V.resL []) [(192, row g (sorted cc css))] := by
  obtain ⟨i', hL⟩ := oLoop (g := g) hb hN hx (css.length - 1) 1 css he hl hs (by omega) (by omega) (by omega)
  have rAll : @V.Run V.sig0 Try.prog iA (S0 g nx (fnU f) css) .normal (SS g nx (fnU f) (sorted cc css) i' .junk (.dat (.bool false)) .junk) := by
    rw [shapeI]
    exact V.Run.seq (ins0 hx) (V.Run.block_to (V.Run.loop hL))
  exact @V.CallHolds.of_run V.sig0 _ _ _ _ Try.func131 bodyI _ _ _ _ _ rAll (.inl rfl) [] rfl
end
end Go.Proofs.Ytjofhegodknmaaa.SayP
