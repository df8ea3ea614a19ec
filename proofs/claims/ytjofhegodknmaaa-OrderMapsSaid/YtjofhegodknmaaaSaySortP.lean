/- A row of fewer than 20 elements sorted by a function that compares. Mine. -/
import Derived.Test.YtjofhegodknmaaaSayInsP
set_option linter.unusedVariables false
set_option linter.unusedSimpArgs false
namespace Go.Proofs.Ytjofhegodknmaaa.SayP
open Go Go.RowKit
open V (D)
open Say

noncomputable def bA : Code := match Try.f122.body with
  | some c => c
  | none => .skip
noncomputable def b0 : Code := cf bA
noncomputable def b1 : Code := cf (cs bA)
noncomputable def bL : Code := cb (cb (cf (cj 2 bA)))
noncomputable def b2 : Code := cf (cf bL)
noncomputable def bX : Code := cs bL
noncomputable def b6 : Code := cf (cj 3 bA)
noncomputable def bM : Code := cb (cb (cj 4 bA))
noncomputable def b7 : Code := cf (cf bM)
noncomputable def bY : Code := cs bM
theorem bodyB : Try.f122.body = some bA := by kernel_rfl
theorem shapeB : bA = .seq b0 (.seq b1 (.seq (.block 0 (.loop bL)) (.seq b6 (.block 2 (.loop bM))))) := by kernel_rfl
theorem shapeBL : bL = .seq (.seq b2 (.cond (.tmp 13) .skip (.exit 0))) bX := by kernel_rfl
theorem shapeBM : bM = .seq (.seq b7 (.cond (.tmp 30) .skip (.exit 2))) bY := by kernel_rfl
theorem regsB : V.Regs b0 ∧ V.Regs b1 ∧ V.Regs bL ∧ V.Regs b6 ∧ V.Regs bM := by
  have h := regs 122 Try.f122 bA Try.func122 bodyB
  rw [shapeB] at h
  exact h
theorem regsBL : (V.Regs b2 ∧ V.Regs .skip ∧ V.Regs (.exit 0)) ∧ V.Regs bX := by
  have h := regsB.2.2.1
  rw [shapeBL] at h
  exact h
theorem regsBM : (V.Regs b7 ∧ V.Regs .skip ∧ V.Regs (.exit 2)) ∧ V.Regs bY := by
  have h := regsB.2.2.2.2
  rw [shapeBM] at h
  exact h
theorem eb0 : b0 = .region 0 (ops b0) false := by kernel_rfl
theorem eb1 : b1 = .region 1 (ops b1) false := by kernel_rfl
theorem eb2 : b2 = .region 2 (ops b2) false := by kernel_rfl
theorem eb6 : b6 = .region 6 (ops b6) false := by kernel_rfl
theorem eb7 : b7 = .region 7 (ops b7) false := by kernel_rfl
def tb (n g : Nat) (F t6 t7 t8 t13 t30 : V.U) : List V.U := [.own 192 g 0 n, .dat (.int .i64 n), F, .junk, .junk, .junk, t6, t7, t8, .junk, .junk, .junk, .junk, t13] ++ List.replicate 16 .junk ++ [t30] ++ List.replicate 32 .junk
def sb (g nx : Nat) (F : V.U) (css : List (List D)) (t6 t7 t8 t13 t30 : V.U) : V.St := ⟨tb css.length g F t6 t7 t8 t13 t30, [(192, row g css)], nx⟩
def sb0 (g nx : Nat) (F : V.U) (css : List (List D)) : V.St := ⟨[.own 192 g 0 css.length, .dat (.int .i64 css.length), F] ++ List.replicate 60 .undef, [(192, row g css)], nx⟩
def q0 : List Bool := [true, true, true, false, false, false, true]
def q1 : List Bool := [true, true, true, false, false, false, true, true, true]
def q13 : List Bool := q1 ++ [false, false, false, false, true]
def q30 : List Bool := q1 ++ List.replicate 21 false ++ [true]
section
variable {sp : Nat → List D → Option (List D)} {g nx f : Nat} {cc : List D → List D → Int} {css : List (List D)}
theorem stab0 (hx : 192 < nx) : V.Run Try.prog b0 (sb0 g nx (fnU f) css) .normal (sb g nx (fnU f) css (iv 20) .junk .junk .junk .junk) := by
  rw [eb0]
  apply V.Run.stepsL (goodE _) regs follows (keep := q0) (ids := [192]) (nx := nx) (by rw [← eb0]; exact regsB.1)
  · apply V.Steps.auto; kernel_rfl; kernel_rfl; kernel_rfl; kernel_rfl
    exact V.Steps.done (by kernel_rfl) rfl
  · rfl
  · exact V.AllKept.cons (ob := row g css) (by kernel_rfl) (congrArg (fun l => List.all l _) (row_refs g css)) V.AllKept.nil
  · kernel_rfl
  · kernel_rfl
  · simp [hx]
  · kernel_rfl
theorem stab1 (hx : 192 < nx) : V.Run Try.prog b1 (sb g nx (fnU f) css (iv 20) .junk .junk .junk .junk) .normal (sb g nx (fnU f) css (iv 20) (iv 0) (iv 20) .junk .junk) := by
  rw [eb1]
  apply V.Run.stepsL (goodE _) regs follows (keep := q1) (ids := [192]) (nx := nx) (by rw [← eb1]; exact regsB.2.1)
  · apply V.Steps.auto; kernel_rfl; kernel_rfl; kernel_rfl; kernel_rfl
    apply V.Steps.auto; kernel_rfl; kernel_rfl; kernel_rfl; kernel_rfl
    apply V.Steps.auto; kernel_rfl; kernel_rfl; kernel_rfl; kernel_rfl
    exact V.Steps.done (by kernel_rfl) rfl
  · rfl
  · exact V.AllKept.cons (ob := row g css) (by kernel_rfl) (congrArg (fun l => List.all l _) (row_refs g css)) V.AllKept.nil
  · kernel_rfl
  · kernel_rfl
  · simp [hx]
  · kernel_rfl
theorem stab2 (hx : 192 < nx) (hl : css.length < 20) : V.Run Try.prog b2 (sb g nx (fnU f) css (iv 20) (iv 0) (iv 20) .junk .junk) .normal (sb g nx (fnU f) css (iv 20) (iv 0) (iv 20) (.dat (.bool false)) .junk) := by
  rw [eb2]
  apply V.Run.stepsL (goodE _) regs follows (keep := q13) (ids := [192]) (nx := nx) (by rw [← eb2]; exact regsBL.1.1)
  · apply V.Steps.auto; kernel_rfl; kernel_rfl; kernel_rfl; kernel_rfl
    apply V.Steps.auto; kernel_rfl; kernel_rfl; kernel_rfl; kernel_rfl
    apply V.Steps.op; kernel_rfl; kernel_rfl; kernel_rfl; exact ((V.st_cmp (op := .leq) (x := .tmp 11) (y := .tmp 12) (k := .i64) (m := 20) (n := (css.length : Int)) (r := false) (by kernel_rfl) (by kernel_rfl) (by kernel_rfl) (V.c_leqF (by omega))))
    exact V.Steps.done (by kernel_rfl) rfl
  · rfl
  · exact V.AllKept.cons (ob := row g css) (by kernel_rfl) (congrArg (fun l => List.all l _) (row_refs g css)) V.AllKept.nil
  · kernel_rfl
  · kernel_rfl
  · simp [hx]
  · kernel_rfl
theorem stab7 (hx : 192 < nx) (hl : css.length < 20) : V.Run Try.prog b7 (sb g nx (fnU f) css (iv 20) (iv 0) (iv 20) .junk .junk) .normal (sb g nx (fnU f) css (iv 20) (iv 0) (iv 20) .junk (.dat (.bool false))) := by
  rw [eb7]
  apply V.Run.stepsL (goodE _) regs follows (keep := q30) (ids := [192]) (nx := nx) (by rw [← eb7]; exact regsBM.1.1)
  · apply V.Steps.auto; kernel_rfl; kernel_rfl; kernel_rfl; kernel_rfl
    apply V.Steps.auto; kernel_rfl; kernel_rfl; kernel_rfl; kernel_rfl
    apply V.Steps.op; kernel_rfl; kernel_rfl; kernel_rfl; exact ((V.st_cmp (op := .lss) (x := .tmp 28) (y := .tmp 29) (k := .i64) (m := 20) (n := (css.length : Int)) (r := false) (by kernel_rfl) (by kernel_rfl) (by kernel_rfl) (V.c_lssF (by omega))))
    exact V.Steps.done (by kernel_rfl) rfl
  · rfl
  · exact V.AllKept.cons (ob := row g css) (by kernel_rfl) (congrArg (fun l => List.all l _) (row_refs g css)) V.AllKept.nil
  · kernel_rfl
  · kernel_rfl
  · simp [hx]
  · kernel_rfl
/-- the call of a function that is handed the row -/
def ent (h g nx f : Nat) (us : List V.U) (cc : List D → List D → Int) (css : List (List D)) : V.CEnt := ⟨h, .own 192 g 0 css.length :: us, [(192, row g css)], nx, V.resL [], [(192, row g (sorted cc css))], nx⟩
def anS (h : Nat) (e : V.CEnt) : V.An := { anE with io := fun x => Nat.beq x h, call := V.inCalls [e] }
theorem goodS {h : Nat} {e : V.CEnt} (hc : @V.CallHolds V.sig0 Try.prog e.f e.us e.st e.nx e.u e.st') : V.Good Try.prog (anS h e) :=
  @V.Good.mk V.sig0 _ _ named (fun _ _ _ h => nomatch h) (fun _ _ _ _ h => nomatch h) (@V.call_of_list V.sig0 _ _ (fun e' he => by
    simp only [List.mem_cons, List.not_mem_nil, or_false] at he
    subst he
    exact hc) _ rfl)
theorem stab6 (hb : V.isBody Try.prog f = true) (hN : V.Good Try.prog (anC sp)) (hx : 192 < nx) (he : Els css) (hl : css.length < 20) (hs : Says sp f cc css) :
    V.Run Try.prog b6 (sb g nx (fnU f) css (iv 20) (iv 0) (iv 20) (.dat (.bool false)) .junk) .normal (sb g nx (fnU f) (sorted cc css) (iv 20) (iv 0) (iv 20) .junk .junk) := by
  have hlen : (sorted cc css).length = css.length := Ord.isort_len cc _ _ _
  have hI := insHolds (g := g) (nx := nx + 40) hb hN (by omega) he (by omega) hs
  rw [eb6]
  apply V.Run.stepsL (goodS (h := 131) (e := ent 131 g (nx + 40) f [iv 0, iv css.length, fnU f] cc css) hI) regs follows (keep := q1) (ids := [192]) (nx := nx) (by rw [← eb6]; exact regsB.2.2.2.1)
  · apply V.Steps.auto; kernel_rfl; kernel_rfl; kernel_rfl; kernel_rfl
    apply V.Steps.auto; kernel_rfl; kernel_rfl; kernel_rfl; kernel_rfl
    apply V.Steps.auto; kernel_rfl; kernel_rfl; kernel_rfl; kernel_rfl
    apply V.Steps.auto; kernel_rfl; kernel_rfl; kernel_rfl; kernel_rfl
    apply V.Steps.step; kernel_rfl; kernel_rfl; exact ((fun k => V.oper_io (fo := .func 131) (xs := [.tmp 23, .tmp 24, .tmp 25, .tmp 26]) (us := [.own 192 g 0 css.length, iv 0, iv css.length, fnU f]) (caps := []) (n := 131) (vs := [(.own 192 g 0 css.length, []), (iv 0, []), (iv css.length, []), (fnU f, [])]) (ids := [192]) (st := [(192, row g css)]) (st' := [(192, row g (sorted cc css))]) (u := V.resL []) (nx' := nx + 40) (by kernel_rfl) (V.step_call (fo := .func 131) (xs := [.tmp 23, .tmp 24, .tmp 25, .tmp 26]) (n := 131) (caps := []) (by kernel_rfl) (by kernel_rfl) (by kernel_rfl)) (by kernel_rfl) (by kernel_rfl) (by kernel_rfl) (by kernel_rfl) (by kernel_rfl) rfl (V.reach_row (ob := row g css) (by kernel_rfl) (row_refs g css)) (by rw [V.closed_row (o := 192) (ob := row g css) (by kernel_rfl) (row_refs g css)]; kernel_rfl) (by kernel_rfl) (V.inCalls_self (ent 131 g (nx + 40) f [iv 0, iv css.length, fnU f] cc css)) V.gr_row))
    exact V.Steps.done (by kernel_rfl) rfl
  · rfl
  · exact V.AllKept.cons (ob := row g (sorted cc css)) (by kernel_rfl) (congrArg (fun l => List.all l _) (row_refs g _)) V.AllKept.nil
  · kernel_rfl
  · kernel_rfl
  · simp [hx]
  · exact Eq.trans (b := tb css.length g (fnU f) (iv 20) (iv 0) (iv 20) .junk .junk) (by kernel_rfl) (congrArg (fun n => tb n g (fnU f) (iv 20) (iv 0) (iv 20) .junk .junk) hlen.symm)
theorem stabHolds (hb : V.isBody Try.prog f = true) (hN : V.Good Try.prog (anC sp)) (hx : 192 < nx) (he : Els css) (hl : css.length < 20) (hs : Says sp f cc css) :
    @V.CallHolds V.sig0 Try.prog 122 [.own 192 g 0 css.length, iv css.length, fnU f] [(192, row g css)] nx (V.resL []) [(192, row g (sorted cc css))] := by
  have hlen : (sorted cc css).length = css.length := Ord.isort_len cc _ _ _
  have c13 : V.Run Try.prog (.cond (.tmp 13) .skip (.exit 0)) (sb g nx (fnU f) css (iv 20) (iv 0) (iv 20) (.dat (.bool false)) .junk) (.exit 0) _ := V.Run.cond_false rfl (V.Run.exit (goodE V.sig0) regs follows)
  have c30 : V.Run Try.prog (.cond (.tmp 30) .skip (.exit 2)) (sb g nx (fnU f) (sorted cc css) (iv 20) (iv 0) (iv 20) .junk (.dat (.bool false))) (.exit 2) _ := V.Run.cond_false rfl (V.Run.exit (goodE V.sig0) regs follows)
  have rL : V.Run Try.prog (.block 0 (.loop bL)) _ .normal _ := V.Run.block_to (V.Run.loop (by rw [shapeBL]; exact V.LRun.out (V.Run.seq_out (V.Run.seq (stab2 (g := g) (f := f) hx hl) c13) (by simp)) (by simp)))
  have rM : V.Run Try.prog (.block 2 (.loop bM)) _ .normal _ := V.Run.block_to (V.Run.loop (by rw [shapeBM]; exact V.LRun.out (V.Run.seq_out (V.Run.seq (stab7 (g := g) (f := f) (css := sorted cc css) hx (by omega)) c30) (by simp)) (by simp)))
  have rAll : @V.Run V.sig0 Try.prog bA (sb0 g nx (fnU f) css) .normal (sb g nx (fnU f) (sorted cc css) (iv 20) (iv 0) (iv 20) .junk (.dat (.bool false))) := by
    rw [shapeB]
    exact V.Run.seq (stab0 hx) (V.Run.seq (stab1 hx) (V.Run.seq rL (V.Run.seq (stab6 hb hN hx he hl hs) rM)))
  exact @V.CallHolds.of_run V.sig0 _ _ _ _ Try.func122 bodyB _ _ _ _ _ rAll (.inl rfl) [] rfl

/-! slices.SortStableFunc. -/
noncomputable def aA : Code := match Try.f99.body with
  | some c => c
  | none => .skip
theorem bodyA : Try.f99.body = some aA := by kernel_rfl
theorem ea : aA = .region 0 (ops aA) false := by kernel_rfl
theorem sortHolds (hb : V.isBody Try.prog f = true) (hN : V.Good Try.prog (anC sp)) (hx : 192 < nx) (he : Els css) (hl : css.length < 20) (hs : Says sp f cc css) :
    @V.CallHolds V.sig0 Try.prog 99 [.own 192 g 0 css.length, fnU f] [(192, row g css)] nx (V.resL []) [(192, row g (sorted cc css))] := by
  have hS := stabHolds (g := g) (nx := nx + 40) hb hN (by omega) he hl hs
  have hreg : V.Regs aA := regs 99 Try.f99 aA Try.func99 bodyA
  have rAll : @V.Run V.sig0 Try.prog aA ⟨[.own 192 g 0 css.length, fnU f] ++ List.replicate 7 .undef, [(192, row g css)], nx⟩ .normal ⟨List.replicate 9 .junk, [(192, row g (sorted cc css))], nx⟩ := by
    rw [ea]
    apply V.Run.stepsL (goodS (h := 122) (e := ent 122 g (nx + 40) f [iv css.length, fnU f] cc css) hS) regs follows (keep := []) (ids := [192]) (nx := nx) (by rw [← ea]; exact hreg)
    · apply V.Steps.auto; kernel_rfl; kernel_rfl; kernel_rfl; kernel_rfl
      apply V.Steps.auto; kernel_rfl; kernel_rfl; kernel_rfl; kernel_rfl
      apply V.Steps.auto; kernel_rfl; kernel_rfl; kernel_rfl; kernel_rfl
      apply V.Steps.auto; kernel_rfl; kernel_rfl; kernel_rfl; kernel_rfl
      apply V.Steps.step; kernel_rfl; kernel_rfl; exact ((fun k => V.oper_io (fo := .func 122) (xs := [.tmp 4, .tmp 6, .tmp 7]) (us := [.own 192 g 0 css.length, iv css.length, fnU f]) (caps := []) (n := 122) (vs := [(.own 192 g 0 css.length, []), (iv css.length, []), (fnU f, [])]) (ids := [192]) (st := [(192, row g css)]) (st' := [(192, row g (sorted cc css))]) (u := V.resL []) (nx' := nx + 40) (by kernel_rfl) (V.step_call (fo := .func 122) (xs := [.tmp 4, .tmp 6, .tmp 7]) (n := 122) (caps := []) (by kernel_rfl) (by kernel_rfl) (by kernel_rfl)) (by kernel_rfl) (by kernel_rfl) (by kernel_rfl) (by kernel_rfl) (by kernel_rfl) rfl (V.reach_row (ob := row g css) (by kernel_rfl) (row_refs g css)) (by rw [V.closed_row (o := 192) (ob := row g css) (by kernel_rfl) (row_refs g css)]; kernel_rfl) (by kernel_rfl) (V.inCalls_self (ent 122 g (nx + 40) f [iv css.length, fnU f] cc css)) V.gr_row))
      exact V.Steps.done (by kernel_rfl) rfl
    · rfl
    · exact V.AllKept.cons (ob := row g (sorted cc css)) (by kernel_rfl) (congrArg (fun l => List.all l _) (row_refs g _)) V.AllKept.nil
    · kernel_rfl
    · kernel_rfl
    · simp [hx]
    · kernel_rfl
  exact @V.CallHolds.of_run V.sig0 _ _ _ _ Try.func99 bodyA _ _ _ _ _ rAll (.inl rfl) [] rfl
end
end Go.Proofs.Ytjofhegodknmaaa.SayP
