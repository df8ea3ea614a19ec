/- V, 14: one operation, and regions in the order of the text. -/
import Derived.Test.YtjofhegodknmaaaV13
set_option linter.unusedSimpArgs false
set_option linter.unusedVariables false
namespace Go.Proofs.Ytjofhegodknmaaa.V
open Go
def Named (P : Program) : Prop := ∀ (f : Nat) fn c, P.funcs[f]? = some fn → fn.body = some c → (fn.name == "runtime.NumGoroutine") = false
variable [Sig]
def OrcHolds (P : Program) (op : Op) (ds : List D) (d : D) : Prop :=
  ∀ (F : Mem), (∀ a v, F a = some v → a.spot = none) → ∀ (ρ : Operand → Value) (o : Oper), o.op = op → (∀ (i : Nat) (x : Operand) (e : D), op.operands.toList[i]? = some x → ds[i]? = some e → Rep F e (ρ x)) →
    ∃ v, pureSem P (execOp ρ o) = some (.value v) ∧ Rep F d v
def OrcOk (P : Program) (an : An) : Prop := ∀ op t ds d, an.orc op = some t → t ds = some d → OrcHolds P op ds d
section
variable {P : Program} {an : An}
theorem pcall_body (hcl : CallOk P an) {k f : Nat} {us : List U} {st : Store} {nx : Nat} {q : U × Store × Nat} (h : pcall P an k f us st nx = some q) : ∃ fn c, P.funcs[f]? = some fn ∧ fn.body = some c := by
  cases k with
  | zero => simp [pcall] at h
  | succ k =>
    simp only [pcall, forceL_eq] at h
    split at h
    · rename_i hq; exact (hcl _ _ _ _ _ _ _ hq).body
    split at h
    · simp at h
    · rename_i fn hfn
      split at h
      · simp at h
      · rename_i c hc; exact ⟨fn, c, hfn, hc⟩
structure Good (P : Program) (an : An) : Prop where
  named : Named P
  spec : SpecOk P an
  orc : OrcOk P an
  call : CallOk P an
theorem docall_body (hcl : CallOk P an) (hsp : SpecOk P an) {k id f : Nat} {us : List U} {g : Nat → Option Obj} {nx : Nat} {r : CallRes} (h : docall P an k id f us g nx = some r) : ∃ fn c, P.funcs[f]? = some fn ∧ fn.body = some c := by
  cases k with
  | zero => simp [docall] at h
  | succ k =>
    simp only [docall, forceUN_eq, forceDN_eq, forceNs_eq, forceUp_eq, forceL_eq] at h
    repeat' split at h
    all_goals first | (simp at h; done) | (rename_i hs; exact (hsp _ _ _ hs).body) | (rename_i hp; exact pcall_body hcl hp) | (rename_i hp _ _; exact pcall_body hcl hp) | (rename_i hp _; exact pcall_body hcl hp)
theorem docall_ok {k id f : Nat} {us : List U} {g : Nat → Option Obj} {nx : Nat} {r : CallRes} {w : World} {F : Mem} {L : Lay} {b0 : Nat} {vs : List Value} (hsp : SpecOk P an) (hk : ∀ j, j < k → PcOk P an j)
    (h : docall P an k id f us g nx = some r) (hS : SR w F L b0 g) (hA : Args F L us vs) (hid : g id = none) (hfr : r.cl = true → ∀ x, nx ≤ x → g x = none) (hb : b0 ≤ w.heap.size) :
    Calls P f vs.toArray w (CallPost w F L b0 (updF g r.res.up) r.res.u) := by
  cases k with
  | zero => simp [docall] at h
  | succ k =>
    by_cases hc : (us.any isPtr || an.io f || an.ior f) = true
    · refine docall_objs (hk k (Nat.lt_succ_self k)) hc h hS hA (hfr ?_) hb
      simp only [docall, forceUN_eq, forceDN_eq, forceNs_eq, forceUp_eq, forceL_eq] at h
      rw [if_pos hc] at h
      repeat' split at h
      all_goals first | (simp at h; done) | (obtain rfl := Option.some.inj h; rfl)
    · exact docall_data hsp (hk k (Nat.lt_succ_self k)) hc h hS hA hid hb
theorem target_ok {F : Mem} {L : Lay} {u : U} {v : Value} {n : Nat} {caps : List U} (h : targetU u = some (n, caps)) (hr : RepU F L u v) : ∃ vs : List Value, v = .func (.func n) #[] vs.toArray ∧ Args F L caps vs := by
  cases u with
  | dat d =>
    cases d with
    | fn f cs =>
      simp only [targetU, Option.some.injEq, Prod.mk.injEq] at h
      obtain ⟨rfl, rfl⟩ := h
      cases hr with
      | dat _ _ hr =>
        cases hr with
        | fn _ _ vs hl hR =>
          refine ⟨vs, rfl, by simp [hl], fun i u v hu hv => ?_⟩
          rw [List.getElem?_map] at hu
          obtain ⟨d, hd, rfl⟩ := Option.map_eq_some_iff.1 hu
          exact .dat _ _ (hR i d v hd hv)
    | _ => simp [targetU] at h
  | fn f cs =>
    simp only [targetU, Option.some.injEq, Prod.mk.injEq] at h
    obtain ⟨rfl, rfl⟩ := h
    cases hr with
    | fn _ _ vs hl hR => exact ⟨vs, rfl, hl, hR⟩
  | _ => simp [targetU] at h
theorem run_call_value {P : Program} (hN : Named P) {a : Act} {o : Oper} {c : Call} {f : Operand} {n : Nat} {vs : Array Value} {fn : Func} {b : Code} (hop : o.op = .call c) (hcal : c.callee = .value f)
    (hv : a.eval f = .func (.func n) #[] vs) (hfn : P.funcs[n]? = some fn) (hb : fn.body = some b) (w : World) :
    (execOp a.eval o).run P w = .ok (.enter n (c.args.map a.eval ++ vs)) w := by
  have _s : Sig := inferInstance
  have hn := hN n fn b hfn hb
  have hn' : fn.name ≠ "runtime.NumGoroutine" := by simpa using hn
  simp [execOp, hop, resolve, hcal, hv, Deferred.ofValue, invoke, callFunc, hfn, hb, hn', Sem.run]
theorem args_eval {F : Mem} {L : Lay} {tm : List U} {a : Act} (hT : TR F L tm a.tmps) {xs : List Operand} {us : List U} (h : xs.mapM (evalU tm) = some us) : Args F L us (xs.map a.eval) := by
  obtain ⟨h1, h2⟩ := mapM_some h
  refine ⟨by simp [h1], fun i u v hu hv => ?_⟩
  rw [List.getElem?_map] at hv
  obtain ⟨x, hx, rfl⟩ := Option.map_eq_some_iff.1 hv
  obtain ⟨u', hu', he⟩ := h2 i x hx
  rw [hu] at hu'
  obtain rfl := Option.some.inj hu'
  exact eval_rep hT he
theorem Args.append {F : Mem} {L : Lay} {us us' : List U} {vs vs' : List Value} (h : Args F L us vs) (h' : Args F L us' vs') : Args F L (us ++ us') (vs ++ vs') := by
  refine ⟨by simp [h.1, h'.1], fun i u v hu hv => ?_⟩
  by_cases hi : i < us.length
  · rw [List.getElem?_append_left hi] at hu
    rw [List.getElem?_append_left (by rw [h.1]; exact hi)] at hv
    exact h.2 i u v hu hv
  · rw [List.getElem?_append_right (by omega)] at hu
    rw [List.getElem?_append_right (by have := h.1; omega), h.1] at hv
    exact h'.2 _ u v hu hv
theorem oper_ok (hN : Good P an) {k id : Nat} {o : Oper} {tm : List U} {g : Nat → Option Obj} {nx : Nat} {r : CallRes} {w : World} {F : Mem} {L : Lay} {b0 : Nat} {a : Act} (hk : ∀ j, j < k → PcOk P an j)
    (h : oper P an k id o tm g nx = some r) (hS : SR w F L b0 g) (hT : TR F L tm a.tmps) (hid : g id = none) (hfr : r.cl = true → ∀ x, nx ≤ x → g x = none) (hb : b0 ≤ w.heap.size)
    {K : Act → World → Prop} {Q : Exit → Act → World → Prop} (hK : ∀ v w' F' L', Evo w F L w' F' L' → SR w' F' L' b0 (updF g r.res.up) → RepU F' L' r.res.u v → K (a.put o.dst v) w') : o.wp P a w K Q := by
  cases k with
  | zero => simp [oper] at h
  | succ k =>
    simp only [oper] at h
    unfold Oper.wp
    split at h
    · rename_i d hd
      obtain rfl := Option.some.inj h
      unfold orcU at hd
      split at hd
      · simp at hd
      · rename_i t ht
        obtain ⟨ds, hds, htd⟩ := Option.bind_eq_some_iff.1 hd
        obtain ⟨v, hrun, hR⟩ := hN.orc _ _ _ _ ht htd F (fun a v h => F_spot hS h) a.eval o rfl fun i x e hx he => by
          obtain ⟨x', hx', hxe⟩ := mapM_back hds he
          rw [hx] at hx'
          obtain rfl := Option.some.inj hx'
          obtain ⟨u, hu, hue⟩ := Option.bind_eq_some_iff.1 hxe
          have := eval_rep hT hu
          cases u <;> simp [asDat] at hue
          subst hue
          cases this with
          | dat _ _ h => exact h
        rw [pureSem_run P _ _ hrun w]
        exact hK v w F L (.refl _ _ _) hS (.dat _ _ hR)
    split at h
    · rename_i r' hr
      obtain rfl := Option.some.inj h
      obtain ⟨v, w', F', L', hrun, hE, hS', hR⟩ := opStep_ok hr hS hT hid hb
      rcases hrun with hrun | ⟨hrun, rfl⟩
      · rw [hrun]; exact hK v w' F' L' hE hS' hR
      · rw [hrun]; exact hK _ w' F' L' hE hS' hR
    · split at h
      · rename_i c hop
        split at h
        · rename_i f hcal
          split at h
          · rename_i n caps us htgt hus
            obtain ⟨u, hu, htu⟩ := Option.bind_eq_some_iff.1 htgt
            obtain ⟨vs, hv, hcaps⟩ := target_ok htu (eval_rep hT hu)
            obtain ⟨fn, b, hfn, hbd⟩ := docall_body hN.call hN.spec h
            rw [run_call_value hN.named hop hcal hv hfn hbd w]
            have hargs := (args_eval hT hus).append hcaps
            have hcall := docall_ok hN.spec (fun j hj => hk j (Nat.lt_succ_of_lt hj)) h hS hargs hid hfr hb
            have e : (c.args.map a.eval ++ vs.toArray) = (c.args.toList.map a.eval ++ vs).toArray := by
              apply Array.ext'
              simp
            rw [Oper.upon_enter, e]
            refine Calls.mono hcall fun e w' he => ?_
            obtain ⟨v, F', L', rfl, hE, hS', hr⟩ := he
            exact hK v w' F' L' hE hS' hr
          · simp at h
        · simp at h
      · simp at h
theorem wanted_ok {ops : Array Oper} {tm : List U} {o : Oper} {b : Bool} {F : Mem} {L : Lay} {a : Act} (h : wantedU ops tm o = some b) (hT : TR F L tm a.tmps) : Region.wanted o (yielded ops a.tmps) = b := by
  unfold wantedU at h
  unfold Region.wanted
  cases hg : o.guard with
  | none => rw [hg] at h; simpa using h
  | some p =>
    obtain ⟨j, want⟩ := p
    rw [hg] at h
    simp only at h ⊢
    unfold yielded
    cases hd : (ops[j]?).bind (·.dst) with
    | none => rw [hd] at h; simp at h
    | some t =>
      rw [hd] at h
      simp only [Option.bind_some] at h ⊢
      split at h
      · rename_i c hc
        obtain ⟨v, hv, hr⟩ := hT.2 t _ hc
        cases hr with
        | dat _ _ hr => cases hr; simp only [hv]; simpa using h
      · rename_i hc
        obtain ⟨v, hv, hr⟩ := hT.2 t _ hc
        cases hr
        simp only [hv]
        simpa [Go.undef] using h
      · simp at h
theorem put_defers (a : Act) (dst : Option Tmp) (v : Value) : (a.put dst v).defers = a.defers := by have _s : Sig := inferInstance; cases dst <;> rfl
theorem opers_seq (hN : Good P an) {Q : Exit → Act → World → Prop} {ops : Array Oper} {base b0 : Nat} : ∀ (k : Nat) (l : List Oper) (i : Nat) (s s' : St) (rs rs' : List (Option CallRes)) (w : World) (F : Mem) (L : Lay) (a : Act),
    (∀ j, j < k → PcOk P an j) → opers P an k ops base l i s rs = some (s', rs') → SR w F L b0 (getO s.st) → TR F L s.tm a.tmps →
    (∀ x, s.nx ≤ x → getO s.st x = none) → (∀ x, base + 8 * i ≤ x → x < base + 8 * (i + l.length) → getO s.st x = none) → base + 8 * (i + l.length) ≤ s.nx → b0 ≤ w.heap.size →
    (∀ a' w' F' L', Evo w F L w' F' L' → SR w' F' L' b0 (getO s'.st) → TR F' L' s'.tm a'.tmps → a'.defers = a.defers → Q .normal a' w') → wpList P ops Q l a w := by
  intro k
  induction k with
  | zero => intro l i s s' rs rs' w F L a hk h; simp [opers] at h
  | succ k ih =>
    intro l i s s' rs rs' w F L a hk h hS hT hnx hids hle hb hQ
    cases l with
    | nil =>
      simp only [opers, Option.some.injEq, Prod.mk.injEq] at h
      obtain ⟨rfl, rfl⟩ := h
      exact hQ a w F L (.refl _ _ _) hS hT rfl
    | cons o rest =>
      simp only [opers, forceN_eq, forceCR_eq, forceT_eq, forceL_eq, putK_eq, storeK_eq] at h
      simp only [List.length_cons] at hids hle
      unfold wpList
      split at h
      · rename_i hw
        rw [wanted_ok hw hT]
        simp only [if_true]
        split at h
        · rename_i r hr
          left
          have hu := (gr_all P an k).2.2.1 _ _ _ _ _ _ hr
          have hul := hu.le
          refine oper_ok hN (fun j hj => hk j (Nat.lt_succ_of_lt hj)) hr hS hT (hids _ (by omega) (by omega)) (fun _ => hnx) hb fun v w' F' L' hE hS' hR => ?_
          have hg : getO (setAll s.st r.res.up) = updF (getO s.st) r.res.up := getO_setAll _ _
          have hnone : ∀ x, getO s.st x = none → x ≠ base + 8 * i → (x < s.nx ∨ r.nx ≤ x) → getO (setAll s.st r.res.up) x = none := by
            intro x hx hne hlt
            rw [hg]
            cases e : updF (getO s.st) r.res.up x with
            | none => rfl
            | some ob =>
              rcases updF_from _ _ x (by rw [e]; simp) with h1 | h1
              · rcases hu.up x h1 with h2 | ⟨_, h2, h3⟩ | h2
                · exact absurd h2 hne
                · omega
                · exact absurd hx h2
              · exact absurd hx h1
          refine ih rest (i + 1) _ s' _ rs' w' F' L' (a.put o.dst v) (fun j hj => hk j (Nat.lt_succ_of_lt hj)) h ?_ ?_ ?_ ?_ ?_ ?_ ?_
          · simp only; rw [hg]; exact hS'
          · exact (hT.mono hE.memLe hE.layLe).put o.dst hR
          · intro x hx; simp only at hx ⊢; exact hnone x (hnx x (by omega)) (by omega) (.inr hx)
          · intro x h1 h2; simp only; exact hnone x (hids x (by omega) (by omega)) (by omega) (.inl (by omega))
          · simp only; omega
          · exact Nat.le_trans hb hE.size
          · intro a' w2 F2 L2 hE2 hS2 hT2 hd
            exact hQ a' w2 F2 L2 (hE.trans hE2) hS2 hT2 (by rw [hd, put_defers])
        · simp at h
      · rename_i hw
        rw [wanted_ok hw hT]
        simp only [Bool.false_eq_true, if_false]
        refine ih rest (i + 1) _ s' _ rs' w F L (a.put o.dst Go.undef) (fun j hj => hk j (Nat.lt_succ_of_lt hj)) h hS (hT.put o.dst .undef) hnx ?_ ?_ hb ?_
        · intro x h1 h2; exact hids x (by omega) (by omega)
        · show base + 8 * (i + 1 + rest.length) ≤ s.nx
          omega
        · intro a' w2 F2 L2 hE2 hS2 hT2 hd
          exact hQ a' w2 F2 L2 hE2 hS2 hT2 (by rw [hd, put_defers])
      · simp at h
end
end Go.Proofs.Ytjofhegodknmaaa.V
