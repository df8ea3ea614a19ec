/- V, 28: regions operation by operation, in an order that is drawn too; elements of rows, read and written; calls. -/
import Derived.Test.YtjofhegodknmaaaV27
set_option linter.unusedSimpArgs false
set_option linter.unusedVariables false
namespace Go.Proofs.Ytjofhegodknmaaa.V
open Go Go.RowKit
inductive StepsT (P : Program) (an : An) (ops : Array Oper) (base : Nat) : Nat → St → St → List (Option CallRes) → Prop
  | done {i : Nat} {s s' : St} (hi : ops.size = i) (e : s = s') : StepsT P an ops base i s s' []
  | step {i : Nat} {s s' : St} {r : CallRes} {rs : List (Option CallRes)} (hi : Nat.ble (i + 1) ops.size = true) (hw : wantedU ops s.tm (opAt ops i) = some true) (h : ∀ k, oper P an (k + 3) (base + 8 * i) (opAt ops i) s.tm (getO s.st) s.nx = some r)
      (t : StepsT P an ops base (i + 1) ⟨put s.tm (opAt ops i).dst r.res.u, setAll s.st r.res.up, r.nx⟩ s' rs) : StepsT P an ops base i s s' (some r :: rs)
  | skip {i : Nat} {s s' : St} {rs : List (Option CallRes)} (hi : Nat.ble (i + 1) ops.size = true) (hw : wantedU ops s.tm (opAt ops i) = some false)
      (t : StepsT P an ops base (i + 1) ⟨put s.tm (opAt ops i).dst .undef, s.st, s.nx⟩ s' rs) : StepsT P an ops base i s s' (none :: rs)
def isBody (P : Program) (f : Nat) : Bool :=
  match P.funcs[f]? with
  | some fn => fn.body.isSome
  | none => false
theorem step_call {P : Program} {g : Nat → Option Obj} {id n : Nat} {tm caps : List U} {o : Oper} {fo : Operand} {xs : List Operand} (hc : callAt o = some (fo, xs)) (hf : (evalU tm fo).bind targetU = some (n, caps)) (hb : isBody P n = true) : opStep P g id tm o = none := by
  obtain ⟨c, e1, e2, e3⟩ : ∃ c, o.op = .call c ∧ c.callee = .value fo ∧ c.args.toList = xs := by
    unfold callAt at hc
    split at hc
    · rename_i c e
      split at hc
      · rename_i f e2
        simp only [Option.some.injEq, Prod.mk.injEq] at hc
        obtain ⟨rfl, rfl⟩ := hc
        exact ⟨c, e, e2, rfl⟩
      · simp at hc
    · simp at hc
  have hp : opPure P tm o = none := by
    obtain ⟨u, hu, ht⟩ := Option.bind_eq_some_iff.1 hf
    unfold isBody at hb
    split at hb
    · rename_i fn hfn
      unfold opPure
      split
      · rename_i hall
        have hmem : fo ∈ o.op.operands.toList := by rw [e1]; simp [Op.operands, Call.operands, e2]
        have hv := List.all_eq_true.1 hall fo hmem
        have hval : valU u = some (.func (.func n) #[] #[]) := by
          rw [hu] at hv
          simp only [Option.bind_some] at hv
          cases u with
          | dat d =>
            cases d with
            | fn f cs =>
              simp only [targetU, Option.some.injEq, Prod.mk.injEq] at ht
              obtain ⟨rfl, _⟩ := ht
              cases cs with
              | nil => rfl
              | cons a r => simp [valU, valD, val1] at hv
            | _ => simp [targetU] at ht
          | fn f cs => simp [valU] at hv
          | _ => simp [targetU] at ht
        have hq : ∃ m, pureSem P (execOp (fun x => ((evalU tm x).bind valU).getD undef) o) = some m ∧ ∀ v, m ≠ .value v := by
          have hf' : ((evalU tm fo).bind valU).getD undef = .func (.func n) #[] #[] := by rw [hu]; simp [hval]
          have hbn : ¬ fn.body = none := by intro e; rw [e] at hb; simp at hb
          simp only [execOp, e1, resolve, e2, hf', Deferred.ofValue]
          by_cases hn : (fn.name == "runtime.NumGoroutine") = true
          · refine ⟨.numGoroutine, ?_, fun v => by simp⟩
            have hn' : fn.name = "runtime.NumGoroutine" := by simpa using hn
            simp [pureSem_bind, invoke, callFunc, program, pureSem, hfn, hn']
          · refine ⟨.enter n ((c.args.map fun x => ((evalU tm x).bind valU).getD undef)), ?_, fun v => by simp⟩
            have hn' : ¬ fn.name = "runtime.NumGoroutine" := by simpa using hn
            simp [pureSem_bind, invoke, callFunc, program, pureSem, hfn, hn', hbn]
        obtain ⟨m, h1, h2⟩ := hq
        rw [h1, e1]
        simp only
        split
        · rename_i v hv; exact absurd (Option.some.inj hv) (h2 v)
        · rfl
      · rfl
    · simp at hb
  unfold opStep
  rw [e1]
  simp only [e2, hp]
section
variable {P : Program} {an : An} {ops : Array Oper} {base : Nat}
theorem StepsT.opers {i : Nat} {s s' : St} {rs' : List (Option CallRes)} (h : StepsT P an ops base i s s' rs') : ∀ (m : Nat) (rs : List (Option CallRes)), ops.size ≤ i + m → opers P an (m + 4) ops base (ops.toList.drop i) i s rs = some (s', rs ++ rs') := by
  induction h with
  | done hi e =>
    intro m rs hm
    subst e
    rw [List.drop_eq_nil_of_le (by simp [hi])]
    simp [V.opers]
  | @step i s s' r rs' hi hw h t ih =>
    intro m rs hm
    have hlt := Nat.le_of_ble_eq_true hi
    cases m with
    | zero => omega
    | succ m =>
      have e := ih m (rs ++ [some r]) (by omega)
      rw [drop_at hi]
      show V.opers P an (m + 4 + 1) _ _ _ _ _ _ = _
      simp only [V.opers, hw, forceN_eq]
      have hm4 : m + 4 = (m + 1) + 3 := by omega
      rw [hm4, h (m + 1), ← hm4]
      simp only [forceCR_eq, forceT_eq, putK_eq, storeK_eq]
      rw [e, List.append_assoc]
      rfl
  | @skip i s s' rs' hi hw t ih =>
    intro m rs hm
    have hlt := Nat.le_of_ble_eq_true hi
    cases m with
    | zero => omega
    | succ m =>
      have e := ih m (rs ++ [none]) (by omega)
      rw [drop_at hi]
      show V.opers P an (m + 4 + 1) _ _ _ _ _ _ = _
      simp only [V.opers, hw, putK_eq]
      rw [e, List.append_assoc]
      rfl
theorem StepsT.op {i : Nat} {s s' : St} {r : Res} {rs : List (Option CallRes)} (hi : Nat.ble (i + 1) ops.size = true) (hw : wantedU ops s.tm (opAt ops i) = some true) (ho : orcU an s.tm (opAt ops i) = none)
    (h : opStep P (getO s.st) (base + 8 * i) s.tm (opAt ops i) = some r) (t : StepsT P an ops base (i + 1) ⟨put s.tm (opAt ops i).dst r.u, setAll s.st r.up, s.nx⟩ s' rs) : StepsT P an ops base i s s' (some ⟨r, s.nx, false⟩ :: rs) :=
  .step hi hw (fun k => oper_step ho h) t
theorem oper_spec {k id n nx : Nat} {o : Oper} {tm us caps : List U} {g : Nat → Option Obj} {fo : Operand} {xs : List Operand} {ds : List (D × List Nat)} {rs : List D} (ho : orcU an tm o = none) (hs : opStep P g id tm o = none) (hc : callAt o = some (fo, xs))
    (hf : (evalU tm fo).bind targetU = some (n, caps)) (ha : xs.mapM (evalU tm) = some us) (hp : ((us ++ caps).any isPtr || an.io n || an.ior n) = false) (hd : (us ++ caps).mapM (toD g 40) = some ds) (hsp : an.spec n (ds.map (·.1)) = some rs) :
    oper P an (k + 3) id o tm g nx = some ⟨⟨resD rs, ds.flatMap (·.2), snapAll g (ds.flatMap (·.2))⟩, nx, false⟩ := by
  obtain ⟨c, e1, e2, e3⟩ : ∃ c, o.op = .call c ∧ c.callee = .value fo ∧ c.args.toList = xs := by
    unfold callAt at hc
    split at hc
    · rename_i c e
      split at hc
      · rename_i f e2
        simp only [Option.some.injEq, Prod.mk.injEq] at hc
        obtain ⟨rfl, rfl⟩ := hc
        exact ⟨c, e, e2, rfl⟩
      · simp at hc
    · simp at hc
  have hdc : docall P an (k + 2) id n (us ++ caps) g nx = some ⟨⟨resD rs, ds.flatMap (·.2), snapAll g (ds.flatMap (·.2))⟩, nx, false⟩ := by
    show docall P an ((k + 1) + 1) _ _ _ _ _ = _
    simp only [docall, hp, Bool.false_eq_true, if_false, hd, forceDN_eq, hsp]
  show oper P an ((k + 2) + 1) _ _ _ _ _ = _
  simp only [oper, ho, hs, e1, e2, hf, e3, ha, hdc]
end
section
variable [Sig] {P : Program} {an : An}
theorem Run.of_stepsT (hN : Good P an) (hR : RegsP P) (hm : P.follows .mixedOrders = true) {id : Nat} {ops : Array Oper} {draw : Bool} {s s' : St} {rs : List (Option CallRes)} (hg : Regs (.region id ops draw)) (h : StepsT P an ops s.nx 0 ⟨s.tm, s.st, s.nx + 8 * ops.size⟩ s' rs) (hr : (!draw || regionOk ops rs) = true) :
    Run P (.region id ops draw) s .normal s' := by
  have e := h.opers ops.size [] (by omega)
  refine Run.of_exec hN hR hm (k := ops.size + 5) hg ?_
  show exec P an ((ops.size + 4) + 1) _ _ = _
  simp only [exec, forceN_eq]
  rw [List.drop_zero, List.nil_append] at e
  rw [e]
  simp only [hr, if_true]
end
structure Els (s : Nat) (a : Bool) (css : List (List D)) : Prop where
  len : ∀ c ∈ css, c.length = s
  one : ∀ c ∈ css, ∀ d ∈ c, d.one = true
  fin : a = true ∨ s = 1
theorem asDats : ∀ l : List D, (l.map U.dat).mapM asDat = some l
  | [] => rfl
  | d :: r => by
    rw [List.map_cons, List.mapM_cons, asDats r]
    rfl
section
variable {P : Program} {g : Nat → Option Obj} {t e : TypeId} {s b : Nat} {a : Bool} {css : List (List D)} {o' gn i : Nat}
theorem Els.set {i : Nat} {c : List D} (he : Els s a css) (hc : c.length = s) (ho : ∀ d ∈ c, d.one = true) : Els s a (css.set i c) := by
  refine ⟨fun x hx => ?_, fun x hx => ?_, he.fin⟩
  · rcases List.mem_or_eq_of_mem_set hx with h | rfl
    · exact he.len x h
    · exact hc
  · rcases List.mem_or_eq_of_mem_set hx with h | rfl
    · exact he.one x h
    · exact ho
end
end Go.Proofs.Ytjofhegodknmaaa.V
