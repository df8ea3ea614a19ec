/- V, 28: regions operation by operation, in an order that is drawn too; elements of rows, read and written; calls. -/
import Derived.Test.YtjofhegodknmaaaV27
set_option linter.unusedSimpArgs false
set_option linter.unusedVariables false
namespace Go.Proofs.Ytjofhegodknmaaa.V
open Go Go.RowKit

/-- The operations of a region from a place on, and what each one yields. -/
inductive StepsT (P : Program) (an : An) (ops : Array Oper) (base : Nat) : Nat → St → St → List (Option CallRes) → Prop
  | done {i : Nat} {s s' : St} (hi : ops.size = i) (e : s = s') : StepsT P an ops base i s s' []
  | step {i : Nat} {s s' : St} {r : CallRes} {rs : List (Option CallRes)} (hi : Nat.ble (i + 1) ops.size = true) (hw : wantedU ops s.tm (opAt ops i) = some true) (h : ∀ k, oper P an (k + 3) (base + 8 * i) (opAt ops i) s.tm (getO s.st) s.nx = some r)
      (t : StepsT P an ops base (i + 1) ⟨put s.tm (opAt ops i).dst r.res.u, setAll s.st r.res.up, r.nx⟩ s' rs) : StepsT P an ops base i s s' (some r :: rs)
  | skip {i : Nat} {s s' : St} {rs : List (Option CallRes)} (hi : Nat.ble (i + 1) ops.size = true) (hw : wantedU ops s.tm (opAt ops i) = some false)
      (t : StepsT P an ops base (i + 1) ⟨put s.tm (opAt ops i).dst .undef, s.st, s.nx⟩ s' rs) : StepsT P an ops base i s s' (none :: rs)
/-- a call of a function with a body is no operation by itself -/
def isBody (P : Program) (f : Nat) : Bool :=
  match P.funcs[f]? with
  | some fn => fn.body.isSome
  | none => false
theorem step_call {P : Program} {g : Nat → Option Obj} {id n : Nat} {tm caps : List U} {o : Oper} {fo : Operand} {xs : List Operand} (hc : callAt o = some (fo, xs)) (hf : (evalU tm fo).bind targetU = some (n, caps)) (hb : isBody P n = true) : opStep P g id tm o = none := by
  obtain ⟨c, e1, e2, e3⟩ : ∃ c, o.op = .call c ∧ c.callee = .value fo ∧ c.args.toList = xs := by
    unfold callAt at hc
    split at hc
    · rename_i c e
      split at hc
      · rename_i f e2
        simp only [Option.some.injEq, Prod.mk.injEq] at hc
        obtain ⟨rfl, rfl⟩ := hc
        exact ⟨c, e, e2, rfl⟩
      · simp at hc
    · simp at hc
  have hp : opPure P tm o = none := by
    obtain ⟨u, hu, ht⟩ := Option.bind_eq_some_iff.1 hf
    unfold isBody at hb
    split at hb
    · rename_i fn hfn
      unfold opPure
      split
      · rename_i hall
        have hmem : fo ∈ o.op.operands.toList := by rw [e1]; simp [Op.operands, Call.operands, e2]
        have hv := List.all_eq_true.1 hall fo hmem
        have hval : valU u = some (.func (.func n) #[] #[]) := by
          rw [hu] at hv
          simp only [Option.bind_some] at hv
          cases u with
          | dat d =>
            cases d with
            | fn f cs =>
              simp only [targetU, Option.some.injEq, Prod.mk.injEq] at ht
              obtain ⟨rfl, _⟩ := ht
              cases cs with
              | nil => rfl
              | cons a r => simp [valU, valD, val1] at hv
            | _ => simp [targetU] at ht
          | fn f cs => simp [valU] at hv
          | _ => simp [targetU] at ht
        have hq : ∃ m, pureSem P (execOp (fun x => ((evalU tm x).bind valU).getD undef) o) = some m ∧ ∀ v, m ≠ .value v := by
          have hf' : ((evalU tm fo).bind valU).getD undef = .func (.func n) #[] #[] := by rw [hu]; simp [hval]
          have hbn : ¬ fn.body = none := by intro e; rw [e] at hb; simp at hb
          simp only [execOp, e1, resolve, e2, hf', Deferred.ofValue]
          by_cases hn : (fn.name == "runtime.NumGoroutine") = true
          · refine ⟨.numGoroutine, ?_, fun v => by simp⟩
            have hn' : fn.name = "runtime.NumGoroutine" := by simpa using hn
            simp [pureSem_bind, invoke, callFunc, program, pureSem, hfn, hn']
          · refine ⟨.enter n ((c.args.map fun x => ((evalU tm x).bind valU).getD undef)), ?_, fun v => by simp⟩
            have hn' : ¬ fn.name = "runtime.NumGoroutine" := by simpa using hn
            simp [pureSem_bind, invoke, callFunc, program, pureSem, hfn, hn', hbn]
        obtain ⟨m, h1, h2⟩ := hq
        rw [h1, e1]
        simp only
        split
        · rename_i v hv; exact absurd (Option.some.inj hv) (h2 v)
        · rfl
      · rfl
    · simp at hb
  unfold opStep
  rw [e1]
  simp only [e2, hp]
section
variable {P : Program} {an : An} {ops : Array Oper} {base : Nat}
theorem StepsT.opers {i : Nat} {s s' : St} {rs' : List (Option CallRes)} (h : StepsT P an ops base i s s' rs') : ∀ (m : Nat) (rs : List (Option CallRes)), ops.size ≤ i + m → opers P an (m + 4) ops base (ops.toList.drop i) i s rs = some (s', rs ++ rs') := by
  induction h with
  | done hi e =>
    intro m rs hm
    subst e
    rw [List.drop_eq_nil_of_le (by simp [hi])]
    simp [V.opers]
  | @step i s s' r rs' hi hw h t ih =>
    intro m rs hm
    have hlt := Nat.le_of_ble_eq_true hi
    cases m with
    | zero => omega
    | succ m =>
      have e := ih m (rs ++ [some r]) (by omega)
      rw [drop_at hi]
      show V.opers P an (m + 4 + 1) _ _ _ _ _ _ = _
      simp only [V.opers, hw, forceN_eq]
      have hm4 : m + 4 = (m + 1) + 3 := by omega
      rw [hm4, h (m + 1), ← hm4]
      simp only [forceCR_eq, forceT_eq, putK_eq, storeK_eq]
      rw [e, List.append_assoc]
      rfl
  | @skip i s s' rs' hi hw t ih =>
    intro m rs hm
    have hlt := Nat.le_of_ble_eq_true hi
    cases m with
    | zero => omega
    | succ m =>
      have e := ih m (rs ++ [none]) (by omega)
      rw [drop_at hi]
      show V.opers P an (m + 4 + 1) _ _ _ _ _ _ = _
      simp only [V.opers, hw, putK_eq]
      rw [e, List.append_assoc]
      rfl
theorem StepsT.op {i : Nat} {s s' : St} {r : Res} {rs : List (Option CallRes)} (hi : Nat.ble (i + 1) ops.size = true) (hw : wantedU ops s.tm (opAt ops i) = some true) (ho : orcU an s.tm (opAt ops i) = none)
    (h : opStep P (getO s.st) (base + 8 * i) s.tm (opAt ops i) = some r) (t : StepsT P an ops base (i + 1) ⟨put s.tm (opAt ops i).dst r.u, setAll s.st r.up, s.nx⟩ s' rs) : StepsT P an ops base i s s' (some ⟨r, s.nx, false⟩ :: rs) :=
  .step hi hw (fun k => oper_step ho h) t
theorem StepsT.auto {i : Nat} {s s' : St} {rs : List (Option CallRes)} (hi : Nat.ble (i + 1) ops.size = true) (hw : wantedU ops s.tm (opAt ops i) = some true) (ho : orcU an s.tm (opAt ops i) = none)
    (h : (opStep P (getO s.st) (base + 8 * i) s.tm (opAt ops i)).isSome = true)
    (t : StepsT P an ops base (i + 1) ⟨put s.tm (opAt ops i).dst ((opStep P (getO s.st) (base + 8 * i) s.tm (opAt ops i)).getD ⟨.undef, [], []⟩).u, setAll s.st ((opStep P (getO s.st) (base + 8 * i) s.tm (opAt ops i)).getD ⟨.undef, [], []⟩).up, s.nx⟩ s' rs) :
    StepsT P an ops base i s s' (some ⟨(opStep P (getO s.st) (base + 8 * i) s.tm (opAt ops i)).getD ⟨.undef, [], []⟩, s.nx, false⟩ :: rs) := by
  refine StepsT.op hi hw ho ?_ t
  cases e : opStep P (getO s.st) (base + 8 * i) s.tm (opAt ops i) with
  | none => rw [e] at h; simp at h
  | some r => rfl
theorem oper_spec {k id n nx : Nat} {o : Oper} {tm us caps : List U} {g : Nat → Option Obj} {fo : Operand} {xs : List Operand} {ds : List (D × List Nat)} {rs : List D} (ho : orcU an tm o = none) (hs : opStep P g id tm o = none) (hc : callAt o = some (fo, xs))
    (hf : (evalU tm fo).bind targetU = some (n, caps)) (ha : xs.mapM (evalU tm) = some us) (hp : ((us ++ caps).any isPtr || an.io n || an.ior n) = false) (hd : (us ++ caps).mapM (toD g 40) = some ds) (hsp : an.spec n (ds.map (·.1)) = some rs) :
    oper P an (k + 3) id o tm g nx = some ⟨⟨resD rs, ds.flatMap (·.2), snapAll g (ds.flatMap (·.2))⟩, nx, false⟩ := by
  obtain ⟨c, e1, e2, e3⟩ : ∃ c, o.op = .call c ∧ c.callee = .value fo ∧ c.args.toList = xs := by
    unfold callAt at hc
    split at hc
    · rename_i c e
      split at hc
      · rename_i f e2
        simp only [Option.some.injEq, Prod.mk.injEq] at hc
        obtain ⟨rfl, rfl⟩ := hc
        exact ⟨c, e, e2, rfl⟩
      · simp at hc
    · simp at hc
  have hdc : docall P an (k + 2) id n (us ++ caps) g nx = some ⟨⟨resD rs, ds.flatMap (·.2), snapAll g (ds.flatMap (·.2))⟩, nx, false⟩ := by
    show docall P an ((k + 1) + 1) _ _ _ _ _ = _
    simp only [docall, hp, Bool.false_eq_true, if_false, hd, forceDN_eq, hsp]
  show oper P an ((k + 2) + 1) _ _ _ _ _ = _
  simp only [oper, ho, hs, e1, e2, hf, e3, ha, hdc]
/-- a call that is handed objects -/
theorem oper_io {k id n nx nx' : Nat} {o : Oper} {tm us caps : List U} {g : Nat → Option Obj} {fo : Operand} {xs : List Operand} {vs : List (U × List Nat)} {ids : List Nat} {u : U} {st st' : Store} (ho : orcU an tm o = none) (hs : opStep P g id tm o = none) (hc : callAt o = some (fo, xs))
    (hf : (evalU tm fo).bind targetU = some (n, caps)) (ha : xs.mapM (evalU tm) = some us) (hp : ((us ++ caps).any isPtr || an.io n || an.ior n) = true) (hv : (us ++ caps).mapM (argIo g (an.io n)) = some vs) (hv0 : vs.flatMap (·.2) = [])
    (hr : reach (updF g []) 400 (refsL (vs.map (·.1))) [] = ids) (hcl : (closed (updF g []) ids && (refsL (vs.map (·.1))).all (fun x => ids.contains x)) = true) (hst : subStore (updF g []) ids = st)
    (hk : an.call n (vs.map (·.1)) st nx = some (u, st', nx')) (hg : grB st nx st' nx' = true) :
    oper P an (k + 3) id o tm g nx = some ⟨⟨u, ids, asUp st'⟩, nx', true⟩ := by
  obtain ⟨c, e1, e2, e3⟩ : ∃ c, o.op = .call c ∧ c.callee = .value fo ∧ c.args.toList = xs := by
    unfold callAt at hc
    split at hc
    · rename_i c e
      split at hc
      · rename_i f e2
        simp only [Option.some.injEq, Prod.mk.injEq] at hc
        obtain ⟨rfl, rfl⟩ := hc
        exact ⟨c, e, e2, rfl⟩
      · simp at hc
    · simp at hc
  have hpc : pcall P an (k + 1) n (vs.map (·.1)) st nx = some (u, st', nx') := by
    simp only [pcall, hk, hg, if_true]
  have hdc : docall P an (k + 2) id n (us ++ caps) g nx = some ⟨⟨u, ids, asUp st'⟩, nx', true⟩ := by
    show docall P an ((k + 1) + 1) _ _ _ _ _ = _
    have hsn : snapAll g [] = [] := rfl
    simp only [docall, hp, if_true, hv, forceUN_eq, forceNs_eq, hv0, hsn, forceUp_eq, hr, hcl, hst, forceL_eq, hpc, List.append_nil, List.nil_append]
  show oper P an ((k + 2) + 1) _ _ _ _ _ = _
  simp only [oper, ho, hs, e1, e2, hf, e3, ha, hdc]
end
section
variable [Sig] {P : Program} {an : An}
theorem Run.of_stepsT (hN : Good P an) (hR : RegsP P) (hm : P.follows .mixedOrders = true) {id : Nat} {ops : Array Oper} {draw : Bool} {s s' : St} {rs : List (Option CallRes)} (hg : Regs (.region id ops draw)) (h : StepsT P an ops s.nx 0 ⟨s.tm, s.st, s.nx + 8 * ops.size⟩ s' rs) (hr : (!draw || regionOk ops rs) = true) :
    Run P (.region id ops draw) s .normal s' := by
  have e := h.opers ops.size [] (by omega)
  refine Run.of_exec hN hR hm (k := ops.size + 5) hg ?_
  show exec P an ((ops.size + 4) + 1) _ _ = _
  simp only [exec, forceN_eq]
  rw [List.drop_zero, List.nil_append] at e
  rw [e]
  simp only [hr, if_true]
theorem Run.stepsTL (hN : Good P an) (hR : RegsP P) (hm : P.follows .mixedOrders = true) {id : Nat} {ops : Array Oper} {draw : Bool} {s s1 : St} {st : Store} {rs : List (Option CallRes)} {keep : List Bool} {nx : Nat} {ids : List Nat} {tm : List U} (hg : Regs (.region id ops draw))
    (h : StepsT P an ops s.nx 0 ⟨s.tm, s.st, s.nx + 8 * ops.size⟩ s1 rs) (hr : (!draw || regionOk ops rs) = true) (hi : ids = st.map (·.1)) (hk : AllKept (getO s1.st) ids st) (hm : (refsL (maskU keep s1.tm)).all (fun x => ids.contains x) = true) (hs : s.st.all (fun p => ids.contains p.1) = true)
    (hn : ids.all (fun x => decide (x < nx)) = true) (he : maskU keep s1.tm = tm) : Run P (.region id ops draw) s .normal ⟨tm, st, nx⟩ :=
  (Run.of_stepsT hN hR ‹_› hg h hr).weakL hi hk hm hs hn he
end

/-! Elements of a row. -/
/-- an element as data -/
def elD (a : Bool) (c : List D) : D := if a then .agg c else c.headD .nil
/-- rows' elements: so many cells each -/
structure Els (s : Nat) (a : Bool) (css : List (List D)) : Prop where
  len : ∀ c ∈ css, c.length = s
  one : ∀ c ∈ css, ∀ d ∈ c, d.one = true
  fin : a = true ∨ s = 1
def rowOf (e s : Nat) (a : Bool) (g : Nat) (css : List (List D)) : Obj := ⟨e, s, a, g, false, css.flatten.map .dat⟩
theorem rowOf_refs (e s : Nat) (a : Bool) (g : Nat) (css : List (List D)) : refsL (rowOf e s a g css).cells = [] := refsL_dats _
theorem rowOf_len {e s : Nat} {a : Bool} {css : List (List D)} (h : Els s a css) (g : Nat) : css.length * s = (rowOf e s a g css).cells.length := by
  simp only [rowOf, List.length_map, flatten_length h.len]
theorem take_flat {s : Nat} : ∀ {css : List (List D)} {i : Nat} {c : List D}, (∀ c ∈ css, c.length = s) → css[i]? = some c → (css.flatten.drop (i * s)).take s = c
  | [], i, c, _, h => by simp at h
  | x :: r, 0, c, hl, h => by
    simp at h
    subst h
    have hx : x.length = s := hl x (by simp)
    rw [List.flatten_cons, Nat.zero_mul, List.drop_zero, ← hx]
    exact List.take_left
  | x :: r, i + 1, c, hl, h => by
    have hx : x.length = s := hl x (by simp)
    have h' : r[i]? = some c := by simpa using h
    have e : (x ++ r.flatten).drop ((i + 1) * s) = r.flatten.drop (i * s) := by
      rw [Nat.succ_mul, Nat.add_comm, ← List.drop_drop, ← hx, List.drop_left]
    rw [List.flatten_cons, e]
    exact take_flat (fun c hc => hl c (by simp [hc])) h'
theorem set_flat {s : Nat} : ∀ {css : List (List D)} {i : Nat} {c : List D}, (∀ c ∈ css, c.length = s) → c.length = s → i < css.length → css.flatten.take (i * s) ++ c ++ css.flatten.drop (i * s + s) = (css.set i c).flatten
  | [], i, c, _, _, h => by simp at h
  | x :: r, 0, c, hl, hc, h => by
    have hx : x.length = s := hl x (by simp)
    rw [List.flatten_cons, Nat.zero_mul, Nat.zero_add, List.take_zero, List.nil_append, ← hx, List.drop_left]
    rfl
  | x :: r, i + 1, c, hl, hc, h => by
    have hx : x.length = s := hl x (by simp)
    have ih := set_flat (css := r) (i := i) (fun c hc => hl c (by simp [hc])) hc (by simpa using h)
    have e1 : (x ++ r.flatten).take ((i + 1) * s) = x ++ r.flatten.take (i * s) := by
      rw [Nat.succ_mul, Nat.add_comm, List.take_append, hx]
      rw [List.take_of_length_le (by omega)]
      congr 2
      omega
    have e2 : (x ++ r.flatten).drop ((i + 1) * s + s) = r.flatten.drop (i * s + s) := by
      rw [Nat.succ_mul, show i * s + s + s = s + (i * s + s) by omega, ← List.drop_drop, ← hx, List.drop_left]
    rw [List.flatten_cons, e1, e2, List.append_assoc, List.append_assoc, ← List.append_assoc (r.flatten.take _), ih]
    rfl
theorem asDats : ∀ l : List D, (l.map U.dat).mapM asDat = some l
  | [] => rfl
  | d :: r => by
    rw [List.map_cons, List.mapM_cons, asDats r]
    rfl
section
variable {P : Program} {g : Nat → Option Obj} {t e : TypeId} {s b : Nat} {a : Bool} {css : List (List D)} {o' gn i : Nat}
theorem st_addrR {n : Nat} (hb : RowT P t e s b a) (hg : g o' = some (rowOf e s a gn css)) (hi : i < n) {k : IntKind} : opIndexAddr P g t (.own o' gn 0 n) (.dat (.int k i)) = some ⟨.ptr o' gn (i * s), [o'], []⟩ := by
  unfold opIndexAddr
  simp only [hb.und, hg, hb.size]
  rw [if_pos ⟨rfl, rfl, hb.pos, by omega, by omega⟩]
  simp
theorem st_loadR (hb : RowT P t e s b a) (he : Els s a css) (hg : g o' = some (rowOf e s a gn css)) {c : List D} (hi : css[i]? = some c) : opLoad P g e (.ptr o' gn (i * s)) = some ⟨.dat (elD a c), [o'], []⟩ := by
  have hlt : i < css.length := (List.getElem?_eq_some_iff.1 hi).1
  have hls : i * s + s ≤ css.length * s := by have := Nat.mul_le_mul_right s (Nat.succ_le_of_lt hlt); rw [Nat.succ_mul] at this; exact this
  have ht := take_flat he.len hi
  unfold opLoad
  simp only [hg, hb.size, hb.agg]
  rw [if_pos ⟨rfl, hb.pos, by rw [← rowOf_len he]; exact hls⟩]
  cases a with
  | true =>
    simp only [if_true, rowOf, ← List.map_drop, ← List.map_take, ht, mkAgg, asDats, elD]
  | false =>
    have h1 : s = 1 := by rcases he.fin with h | h <;> simp_all
    subst h1
    have hc : c.length = 1 := he.len c (List.mem_of_getElem? hi)
    obtain ⟨d, rfl⟩ := List.length_eq_one_iff.1 hc
    have h2 : css.flatten[i * 1]? = some d := by
      have := congrArg (·[0]?) ht
      simpa [List.getElem?_take, List.getElem?_drop] using this
    simp only [rowOf, Bool.false_eq_true, if_false, List.getElem?_map, h2, Option.map_some, elD, List.headD_cons]
theorem elD_cells (hs : a = true ∨ s = 1) {c : List D} (hc : c.length = s) (ho : ∀ d ∈ c, d.one = true) : (U.dat (elD a c)).cells = c.map .dat := by
  cases a with
  | true => rfl
  | false =>
    have h1 : s = 1 := by simpa using hs
    subst h1
    obtain ⟨d, rfl⟩ := List.length_eq_one_iff.1 hc
    have hd : d.one = true := ho d (by simp)
    show (U.dat d).cells = _
    exact U.cells_one hd
theorem st_storeR (hb : RowT P t e s b a) (he : Els s a css) (hg : g o' = some (rowOf e s a gn css)) {c : List D} (hc : c.length = s) (ho : ∀ d ∈ c, d.one = true) (hi : i < css.length) :
    opStore P g e (.ptr o' gn (i * s)) (.dat (elD a c)) = some ⟨.undef, [o'], [(o', rowOf e s a gn (css.set i c))]⟩ := by
  have hls : i * s + s ≤ css.length * s := by have := Nat.mul_le_mul_right s (Nat.succ_le_of_lt hi); rw [Nat.succ_mul] at this; exact this
  have hcl := elD_cells he.fin hc ho
  unfold opStore
  simp only [hg, hb.size, hcl]
  rw [if_pos ⟨rfl, hb.pos, rfl, by rw [List.length_map]; exact hc, by rw [← rowOf_len he]; exact hls, by rw [List.all_map]; exact List.all_eq_true.2 fun d hd => ho d hd⟩]
  congr 5
  simp only [rowOf, splice, List.length_map, hc, ← List.map_take, ← List.map_drop, ← List.map_append, set_flat he.len hc hi]
theorem Els.set {i : Nat} {c : List D} (he : Els s a css) (hc : c.length = s) (ho : ∀ d ∈ c, d.one = true) : Els s a (css.set i c) := by
  refine ⟨fun x hx => ?_, fun x hx => ?_, he.fin⟩
  · rcases List.mem_or_eq_of_mem_set hx with h | rfl
    · exact he.len x h
    · exact hc
  · rcases List.mem_or_eq_of_mem_set hx with h | rfl
    · exact he.one x h
    · exact ho
end

/-! What is the same is told so. -/
mutual
theorem beqU_refl : ∀ u : U, beqU u u = true
  | .dat d => by simp only [beqU, beqD_refl]
  | .ptr a b c => by simp [beqU]
  | .own a b c d => by simp [beqU]
  | .agg l => by simp only [beqU, beqUs_refl l]
  | .tup l => by simp only [beqU, beqUs_refl l]
  | .fn f l => by simp [beqU, beqUs_refl l]
  | .undef => by simp [beqU]
  | .junk => by simp [beqU]
  | .map a b => by simp [beqU]
theorem beqUs_refl : ∀ l : List U, beqUs l l = true
  | [] => by simp only [beqUs]
  | u :: r => by simp only [beqUs, beqU_refl u, beqUs_refl r, Bool.and_true]
end
theorem beqOb_refl (a : Obj) : beqOb a a = true := by simp [beqOb, beqO_refl, beqUs_refl]
theorem beqSt_refl : ∀ s : Store, beqSt s s = true
  | [] => rfl
  | (o, a) :: r => by simp [beqSt, beqOb_refl, beqSt_refl r]
theorem inCalls_self (e : CEnt) : inCalls [e] e.f e.us e.st e.nx = some (e.u, e.st', e.nx') := by
  simp [inCalls, beqUs_refl, beqSt_refl]
theorem reach_row {g : Nat → Option Obj} {o : Nat} {ob : Obj} (hg : g o = some ob) (hr : refsL ob.cells = []) : reach g 400 [o] [] = [o] := by
  show reach g (398 + 1 + 1) [o] [] = [o]
  simp only [reach, List.contains_nil, Bool.false_eq_true, if_false, hg, hr, List.nil_append]
theorem closed_row {g : Nat → Option Obj} {o : Nat} {ob : Obj} (hg : g o = some ob) (hr : refsL ob.cells = []) : closed g [o] = true := by
  simp [closed, hg, hr]
theorem gr_row {o nx : Nat} {a b : Obj} : grB [(o, a)] nx [(o, b)] nx = true := by simp [grB, getO]
theorem AllKept.of_eq {g g' : Nat → Option Obj} {ids : List Nat} {l : Store} (e : g = g') (h : AllKept g' ids l) : AllKept g ids l := by rw [e]; exact h
end Go.Proofs.Ytjofhegodknmaaa.V
