/- V, quickly: calls and regions. -/
import Derived.Test.YtillejiepbgkbaaGreatVK
set_option linter.unusedSimpArgs false
set_option linter.unusedVariables false
namespace Go.Proofs.YtillejiepbgkbaaGreat.V
open Go Go.RowKit

theorem call_pure_none {P : Program} {o : Oper} {c : Call} {f : Nat} {tm : List U} (ho : o.op = .call c) (hcal : c.callee = .value (.func f)) (hb : hasBody P f = true) : opPure P tm o = none := by
  unfold hasBody at hb
  split at hb
  · rename_i fn hfn
    unfold opPure
    split
    · have hp : ∃ n, pureSem P (execOp (fun x => ((evalU tm x).bind valU).getD undef) o) = some n ∧ ∀ v, n ≠ .value v := by
        have hf : ((evalU tm (.func f)).bind valU).getD undef = .func (.func f) #[] #[] := rfl
        have hbn : ¬ fn.body = none := by intro e; rw [e] at hb; simp at hb
        simp only [execOp, ho, resolve, hcal, hf, Deferred.ofValue]
        by_cases hn : (fn.name == "runtime.NumGoroutine") = true
        · refine ⟨.numGoroutine, ?_, fun v => by simp⟩
          have hn' : fn.name = "runtime.NumGoroutine" := by simpa using hn
          simp [pureSem_bind, invoke, callFunc, program, pureSem, hfn, hn']
        · refine ⟨.enter f ((c.args.map fun x => ((evalU tm x).bind valU).getD undef)), ?_, fun v => by simp⟩
          have hn' : ¬ fn.name = "runtime.NumGoroutine" := by simpa using hn
          simp [pureSem_bind, invoke, callFunc, program, pureSem, hfn, hn', hbn]
      obtain ⟨n, h1, h2⟩ := hp
      rw [h1, ho]
      simp only
      split
      · rename_i v hv; exact absurd (Option.some.inj hv) (h2 v)
      · rfl
    · rfl
  · simp at hb

section
variable {P : Program} {an : An}
theorem allDat_cases {β : Type} : ∀ (us : List U) (k : List D → β) (e : β), (∃ ds : List D, us = ds.map .dat ∧ allDat us k e = k ds) ∨ allDat us k e = e
  | [], k, e => .inl ⟨[], rfl, rfl⟩
  | u :: r, k, e => by
    cases u with
    | dat d =>
      rcases allDat_cases r (fun ds => k (d :: ds)) e with ⟨ds, rfl, h⟩ | h
      · exact .inl ⟨d :: ds, rfl, h⟩
      · exact .inr h
    | _ => exact .inr rfl
theorem allDat_some {γ : Type} {us : List U} {k : List D → Option γ} {e : Option γ} {y : γ} (h : allDat us k e = some y) : (∃ ds : List D, us = ds.map .dat ∧ k ds = some y) ∨ e = some y := by
  rcases allDat_cases us k e with ⟨ds, h1, h2⟩ | h2
  · exact .inl ⟨ds, h1, h2.symm.trans h⟩
  · exact .inr (h2.symm.trans h)
theorem dats_any {ds : List D} : (ds.map U.dat).any isPtr = false := by
  induction ds with
  | nil => rfl
  | cons d r ih => rw [List.map_cons, List.any_cons, ih]; rfl
theorem flat_nil (ds : List D) : (ds.map fun d => (d, ([] : List Nat))).flatMap (·.2) = [] := by
  induction ds with
  | nil => rfl
  | cons d r ih => rw [List.map_cons, List.flatMap_cons, ih]; rfl
theorem fst_map (ds : List D) : (ds.map fun d => (d, ([] : List Nat))).map (·.1) = ds := by
  simp [Function.comp_def]
theorem bring_dat {st : Store} {ow : Bool} {id : Nat} {d : D} : bring st ow id (.dat d) = some (.dat d, []) := by
  have h : toD (getO st) 40 (.dat d) = some (d, []) := rfl
  unfold bring
  split
  · rename_i hh; cases hh
  · rw [h]; simp only [forceD_eq]
theorem bringAll_dats {st : Store} {ow : Bool} {id : Nat} (ds : List D) : bringAll st ow id (ds.map .dat) = some (ds.map .dat, []) := by
  cases ds with
  | nil => rfl
  | cons d r =>
    simp only [List.map_cons, bringAll, bring_dat]
    rw [toD_dats (k := 39) r]
    simp only [forceDN_eq, List.map_map, Function.comp_def, List.map_nil]
/-- a call of data -/
theorem docall_dat {id f : Nat} {ds : List D} {g : Nat → Option Obj} {nx : Nat} (hio : an.io f = false) (m : Nat) :
    (∀ rs, an.spec f ds = some rs → docall P an (m + 3) id f (ds.map .dat) g nx = some ⟨⟨resD rs, [], []⟩, nx, false⟩) ∧
    (∀ u st' nx', an.spec f ds = none → an.call f (ds.map .dat) [] 0 = some (u, st', nx') → grB [] 0 st' nx' = true →
      (∀ d, u = .dat d → docall P an (m + 3) id f (ds.map .dat) g nx = some ⟨⟨.dat d, [], []⟩, nx, false⟩) ∧
      (∀ l : List D, u = .tup (l.map .dat) → docall P an (m + 3) id f (ds.map .dat) g nx = some ⟨⟨.tup (l.map .dat), [], []⟩, nx, false⟩)) := by
  have hc : ((ds.map U.dat).any isPtr || an.io f) = false := by rw [dats_any, hio]; rfl
  have hm := toD_dats (g := g) (k := 39) ds
  have hsn : snapAll g [] = [] := rfl
  refine ⟨fun rs hs => ?_, fun u st' nx' hs hcall hgr => ⟨fun d hu => ?_, fun l hu => ?_⟩⟩
  · rw [docall]
    simp only [hc, Bool.false_eq_true, if_false, hm, forceDN_eq, fst_map, hs, flat_nil, hsn]
  · subst hu
    have hp : pcall P an (m + 2) f (ds.map .dat) [] 0 = some (.dat d, st', nx') := by
      rw [pcall]
      simp only [hcall, hgr, if_true]
    rw [docall]
    simp only [hc, Bool.false_eq_true, if_false, hm, forceDN_eq, fst_map, hs, flat_nil, hsn]
    simp only [forceL_eq, List.map_map, Function.comp_def]
    rw [hp]
    simp only [bring_dat, Option.map_some, List.append_nil]
  · subst hu
    have hp : pcall P an (m + 2) f (ds.map .dat) [] 0 = some (.tup (l.map .dat), st', nx') := by
      rw [pcall]
      simp only [hcall, hgr, if_true]
    rw [docall]
    simp only [hc, Bool.false_eq_true, if_false, hm, forceDN_eq, fst_map, hs, flat_nil, hsn]
    simp only [forceL_eq, List.map_map, Function.comp_def]
    rw [hp]
    simp only [bringAll_dats, Option.map_some, List.append_nil]

/-! Calls that are handed objects. -/
theorem refsR_eq : ∀ (l : List U) (k : List Nat), refsR l k = refsL l ++ k
  | [], k => rfl
  | u :: r, k => by
    have ih := refsR_eq r k
    cases u <;> first
      | (show refsR r k = _; rw [ih]; rfl)
      | (show _ :: refsR r k = _; rw [ih]; rfl)
      | (show refs _ ++ refsR r k = _; rw [ih]; simp only [refsL, List.append_assoc])
theorem hasR_eq (o : Nat) : ∀ l : List Nat, hasR o l = l.contains o
  | [] => rfl
  | a :: r => by
    show (bif Nat.beq o a then true else hasR o r) = _
    rw [hasR_eq o r, List.contains_cons]
    by_cases h : o = a
    · subst h; simp
    · rw [beqN_ne h]
      have : (o == a) = false := beq_eq_false_iff_ne.2 h
      rw [this]
      rfl
theorem reachR_eq (g : Nat → Option Obj) : ∀ (n : Nat) (todo acc : List Nat), reachR g n todo acc = reach g n todo acc
  | 0, todo, acc => rfl
  | n + 1, [], acc => rfl
  | n + 1, o :: todo, acc => by
    show (bif hasR o acc then reachR g n todo acc else match g o with | some ob => reachR g n (refsR ob.cells todo) (o :: acc) | none => reachR g n todo (o :: acc)) = _
    rw [hasR_eq]
    unfold reach
    cases h : acc.contains o with
    | true => simp only [cond_true, if_true]; exact reachR_eq g n todo acc
    | false =>
      simp only [cond_false, Bool.false_eq_true, if_false]
      cases hg : g o with
      | none => exact reachR_eq g n todo (o :: acc)
      | some ob => simp only [refsR_eq]; exact reachR_eq g n _ (o :: acc)
theorem subR_eq : ∀ (l acc : List Nat), subR l acc = l.all fun x => acc.contains x
  | [], acc => rfl
  | o :: r, acc => by
    show (bif hasR o acc then subR r acc else false) = _
    rw [hasR_eq, subR_eq r, List.all_cons]
    cases acc.contains o <;> rfl
theorem closedR_eq (g : Nat → Option Obj) (ids : List Nat) : ∀ l : List Nat, closedR g ids l = l.all fun o => match g o with | some ob => (refsL ob.cells).all fun x => ids.contains x | none => true
  | [] => rfl
  | o :: r => by
    show (match g o with | some ob => bif subR (refsR ob.cells []) ids then closedR g ids r else false | none => closedR g ids r) = _
    rw [List.all_cons, ← closedR_eq g ids r]
    cases g o with
    | none => simp
    | some ob =>
      simp only [refsR_eq, List.append_nil, subR_eq]
      cases (refsL ob.cells).all fun x => ids.contains x <;> rfl
theorem subSt_eq {β : Type} (g : Nat → Option Obj) : ∀ (l : List Nat) (k : Store → β), subSt g l k = k (subStore g l)
  | [], k => rfl
  | o :: r, k => by
    show (match g o with | some ob => subSt g r fun r => k ((o, ob) :: r) | none => subSt g r k) = _
    cases h : g o with
    | none =>
      have e0 : subStore g (o :: r) = subStore g r := by simp [subStore, h]
      rw [e0]
      exact subSt_eq g r k
    | some ob =>
      have e0 : subStore g (o :: r) = (o, ob) :: subStore g r := by simp [subStore, h]
      rw [e0]
      exact subSt_eq g r fun r => k ((o, ob) :: r)
theorem keysR_eq {β : Type} : ∀ (s : Store) (k : List Nat → β), keysR s k = k (s.map (·.1))
  | [], k => rfl
  | (o, e) :: r, k => by
    show keysR r (fun l => k (o :: l)) = _
    rw [keysR_eq r]
    rfl
theorem getO_has {s : Store} {o : Nat} (h : o ∈ s.map (·.1)) : (getO s o).isSome = true := by
  induction s with
  | nil => simp at h
  | cons p r ih =>
    obtain ⟨o', e⟩ := p
    simp only [getO]
    split
    · rfl
    · rename_i hne
      rcases List.mem_cons.1 h with h | h
      · exact absurd h.symm hne
      · exact ih h
theorem grR_ok {st : Store} {nx : Nat} {st' : Store} {nx' : Nat} (h : grR st nx st' nx' = true) : grB st nx st' nx' = true := by
  unfold grR at h
  rw [Bool.cond_eq_ite] at h
  split at h
  · rename_i hle
    rw [keysR_eq, keysR_eq, subR_eq] at h
    rw [Bool.cond_eq_ite] at h
    split at h
    · rename_i hsub
      rw [List.all_eq_true] at hsub
      unfold grB
      simp only [Bool.and_eq_true, List.all_eq_true, Bool.or_eq_true]
      refine ⟨⟨hle, fun p hp => ?_⟩, fun p hp => ?_⟩
      · have := hsub p.1 (List.mem_map.2 ⟨p, hp, rfl⟩)
        exact getO_has (by simpa using this)
      · have key : ∀ l : List Nat, List.rec (motive := fun _ => Bool) true (fun x _ ih => bif hasR x (st.map (·.1)) then ih else bif Nat.ble nx x then (bif Nat.blt x nx' then ih else false) else false) l = true →
            ∀ x ∈ l, x ∈ st.map (·.1) ∨ (Nat.ble nx x = true ∧ Nat.blt x nx' = true) := by
          intro l
          induction l with
          | nil => intro _ x hx; simp at hx
          | cons a r ih =>
            intro hh x hx
            simp only at hh
            have hh2 : (a ∈ st.map (·.1) ∨ (Nat.ble nx a = true ∧ Nat.blt a nx' = true)) ∧ List.rec (motive := fun _ => Bool) true (fun x _ ih => bif hasR x (st.map (·.1)) then ih else bif Nat.ble nx x then (bif Nat.blt x nx' then ih else false) else false) r = true := by
              rw [hasR_eq] at hh
              cases h1 : (st.map (·.1)).contains a with
              | true => rw [h1] at hh; exact ⟨.inl (by simpa using h1), hh⟩
              | false =>
                rw [h1] at hh
                simp only [cond_false] at hh
                cases h2 : Nat.ble nx a with
                | false => rw [h2] at hh; simp at hh
                | true =>
                  rw [h2] at hh
                  simp only [cond_true] at hh
                  cases h3 : Nat.blt a nx' with
                  | false => rw [h3] at hh; simp at hh
                  | true => rw [h3] at hh; exact ⟨.inr ⟨rfl, rfl⟩, hh⟩
            rcases List.mem_cons.1 hx with rfl | hx
            · exact hh2.1
            · exact ih hh2.2 x hx
        rcases key _ h p.1 (List.mem_map.2 ⟨p, hp, rfl⟩) with h1 | h1
        · exact .inl (getO_has h1)
        · exact .inr ⟨h1.1, by rw [Nat.ble_eq]; have := h1.2; rw [Nat.blt_eq] at this; exact this⟩
    · simp at h
  · simp at h
theorem plain_args {g : Nat → Option Obj} {io : Bool} : ∀ {us : List U}, plainR us = true → us.mapM (argIo g io) = some (us.map fun u => (u, []))
  | [], _ => rfl
  | u :: r, h => by
    have key : plainR r = true ∧ argIo g io u = some (u, []) := by
      cases u with
      | dat d =>
        refine ⟨h, ?_⟩
        unfold argIo
        split
        · rfl
        · rfl
      | ptr a b c => exact ⟨h, rfl⟩
      | map a b => exact ⟨h, rfl⟩
      | _ => exact absurd h (by simp [plainR])
    rw [List.mapM_cons, key.2, plain_args key.1]
    rfl
theorem snd_nil (us : List U) : (us.map fun u => (u, ([] : List Nat))).flatMap (·.2) = [] := by
  induction us with
  | nil => rfl
  | cons d r ih => rw [List.map_cons, List.flatMap_cons, ih]; rfl
theorem fst_mapU (us : List U) : (us.map fun u => (u, ([] : List Nat))).map (·.1) = us := by simp [Function.comp_def]
theorem fcallobj_ok {id f : Nat} {us : List U} {g : Nat → Option Obj} {nx : Nat} {r : CallRes} (hc : (us.any isPtr || an.io f) = true) (h : fcallobj P an id f us g nx = some r) (m : Nat) : docall P an (m + 3) id f us g nx = some r := by
  unfold fcallobj at h
  rw [Bool.cond_eq_ite] at h
  split at h
  · rename_i hpl
    rw [forceNs_eq, reachR_eq, refsR_eq, List.append_nil] at h
    replace h := cond_some h
    obtain ⟨hcl, h⟩ := h
    rw [closedR_eq, subR_eq] at hcl
    rw [subSt_eq] at h
    have hsn : snapAll g [] = [] := rfl
    have hup : updF g [] = g := rfl
    split at h
    · rename_i u st' nx' hcall
      replace h := cond_some h
      obtain ⟨hgr, h⟩ := h
      rw [keysR_eq, subSt_eq, getF_fun] at h
      obtain rfl := Option.some.inj h
      have hp : pcall P an (m + 2) f us (subStore g (reach g 400 (refsL us) [])) nx = some (u, st', nx') := by
        rw [pcall]
        simp only [hcall, grR_ok hgr, if_true]
      rw [docall]
      simp only [hc, if_true, plain_args hpl, forceUN_eq, snd_nil, forceNs_eq, forceUp_eq, hsn, hup, fst_mapU, forceL_eq]
      have hcl2 : (closed g (reach g 400 (refsL us) []) && (refsL us).all fun x => (reach g 400 (refsL us) []).contains x) = true := hcl
      rw [if_pos hcl2, hp]
      simp only [List.append_nil, List.nil_append]
      rfl
    · simp at h
  · exact fuel_le' (by omega) h
theorem fcalldat_ok {id f : Nat} {us : List U} {g : Nat → Option Obj} {nx : Nat} {r : CallRes} (h : fcalldat P an id f us g nx = some r) (m : Nat) : docall P an (m + 3) id f us g nx = some r := by
  unfold fcalldat at h
  cases hio : an.io f with
  | true => rw [hio] at h; exact fcallobj_ok (by rw [hio]; simp) h m
  | false =>
    rw [hio] at h
    simp only [cond_false] at h
    replace h := allDat_some h
    rcases h with ⟨ds, rfl, h⟩ | h
    · have hd := docall_dat (P := P) (an := an) (id := id) (f := f) (ds := ds) (g := g) (nx := nx) hio m
      split at h
      · rename_i rs hs
        obtain rfl := Option.some.inj h
        exact hd.1 rs hs
      · rename_i hs
        split at h
        · rename_i u st' nx' hcall
          replace h := cond_some h
          obtain ⟨hgr, h⟩ := h
          have hd2 := hd.2 u st' nx' hs hcall hgr
          split at h
          · rename_i d
            obtain rfl := Option.some.inj h
            exact hd2.1 d rfl
          · rename_i l
            replace h := allDat_some h
            rcases h with ⟨l', hl, h⟩ | h
            · obtain rfl := Option.some.inj h
              rw [hl]
              exact hd2.2 l' (by rw [hl])
            · exact fuel_le' (by omega) h
          · exact fuel_le' (by omega) h
        · simp at h
    · cases hp : us.any isPtr with
      | true => rw [hp] at h; exact fcallobj_ok (by rw [hp]; rfl) h m
      | false => rw [hp] at h; exact fuel_le' (by omega) h

/-! One operation. -/
theorem fop1_ok (hy : Shy an) {t0 t : T} (hs : Shp t0 t) {o : Oper} {base i : Nat} {m : M} {st : Store} {nx : Nat} {r : CallRes} (hk : okM P t0 o m = true) (h : fop1 P an o base i m t st nx = some r) (n : Nat) :
    oper P an (n + 5) (base + 8 * i) o t.toL (getO st) nx = some r := by
  unfold fop1 at h
  rw [forceN_eq, getF_fun] at h
  have hid : Nat.add base (Nat.mul 8 i) = base + 8 * i := rfl
  rw [hid] at h
  split at h
  · exact fuel_le (by omega) h
  · rename_i f args
    rw [aev_eq] at h
    simp only [okM] at hk
    split at hk
    · rename_i c ho
      split at hk
      · rename_i g hcal
        simp only [Bool.and_eq_true] at hk
        have hfg := Nat.eq_of_beq_eq_true hk.1.1
        subst hfg
        have ha := okAs_ev hs hk.2
        have hd := fcalldat_ok h (n + 1)
        have horc : orcU an t.toL o = none := orcU_none (by rw [ho]; exact hy.cl _ _ hcal)
        have hpn := call_pure_none (P := P) (tm := t.toL) ho hcal hk.1.2
        have hst : opStep P (getO st) (base + 8 * i) t.toL o = none := by
          unfold opStep
          rw [ho]
          simp only [hcal, hpn]
        rw [oper]
        simp only [horc, hst, ho, hcal, ha]
        have e0 : (evalU t.toL (.func f)).bind targetU = some (f, []) := rfl
        simp only [e0, List.append_nil]
        exact hd
      · simp at hk
    · simp at hk
  · rename_i m' h1 h2
    split at h
    · rename_i r' hr
      obtain rfl := Option.some.inj h
      obtain ⟨h3, h4⟩ := fop_ok hy hs hk hr
      exact oper_step h4 h3
    · exact fuel_le (by omega) h
end

end Go.Proofs.YtillejiepbgkbaaGreat.V
