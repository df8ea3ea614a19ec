/- V, 13: calls of both kinds, if what is called is sound. -/
import Derived.Test.YtjofhegodknmaaaV12
set_option linter.unusedSimpArgs false
set_option linter.unusedVariables false
namespace Go.Proofs.Ytjofhegodknmaaa.V
open Go
variable [Sig]
def cutL (L : Lay) (ids : List Nat) : Lay := fun x => if x ∈ ids then L x else none
theorem refsL_mem : ∀ {l : List U} {i : Nat} {u : U} {x : Nat}, l[i]? = some u → x ∈ refs u → x ∈ refsL l := by
  have _s : Sig := inferInstance
  intro l
  induction l with
  | nil => intro i u x h; simp at h
  | cons a l ih =>
    intro i u x h hx
    simp only [refsL, List.mem_append]
    cases i with
    | zero => simp at h; subst h; exact .inl hx
    | succ i => simp at h; exact .inr (ih h hx)
theorem RepU.cut {F : Mem} {L : Lay} {ids : List Nat} {u : U} {v : Value} (h : RepU F L u v) : (∀ x ∈ refs u, x ∈ ids) → RepU F (cutL L ids) u v := by
  induction h with
  | dat d v h => intro _; exact .dat d v h
  | ptr o p i h => intro hx; exact .ptr o p i (by simp [cutL, hx o (by simp [refs]), h])
  | ptrOld o g p i a h hg => intro hx; exact .ptrOld o g p i a (by simp [cutL, hx o (by simp [refs]), h]) hg
  | own o off n c i h hn hc => intro hx; exact .own o off n c i (by simp [cutL, hx o (by simp [refs]), h]) hn hc
  | ownEnd o off i a h => intro hx; exact .ownEnd o off i a (by simp [cutL, hx o (by simp [refs]), h])
  | ownOld o g off n i a c h hg => intro hx; exact .ownOld o g off n i a c (by simp [cutL, hx o (by simp [refs]), h]) hg
  | agg cs vs hl ho h ih => intro hx; exact .agg cs vs hl ho fun i u v hu hv => ih i u v hu hv fun x h => hx x (by simp only [refs]; exact refsL_mem hu h)
  | tup l vs hl h ih => intro hx; exact .tup l vs hl fun i u v hu hv => ih i u v hu hv fun x h => hx x (by simp only [refs]; exact refsL_mem hu h)
  | fn f caps vs hl h ih => intro hx; exact .fn f caps vs hl fun i u v hu hv => ih i u v hu hv fun x h => hx x (by simp only [refs]; exact refsL_mem hu h)
  | undef => intro _; exact .undef
  | junk v => intro _; exact .junk v
  | map o i h => intro hx; exact .map o i (by simp [cutL, hx o (by simp [refs]), h])
  | mapOld o g i r h hg => intro hx; exact .mapOld o g i r (by simp [cutL, hx o (by simp [refs]), h]) hg
theorem closed_spec {g : Nat → Option Obj} {ids : List Nat} (h : closed g ids = true) {o : Nat} {ob : Obj} (ho : o ∈ ids) (hg : g o = some ob) : ∀ x ∈ refsL ob.cells, x ∈ ids := by
  have _s : Sig := inferInstance
  intro x hx
  unfold closed at h
  rw [List.all_eq_true] at h
  have h1 := h o ho
  rw [hg] at h1
  simp only [List.all_eq_true, List.contains_eq_mem, decide_eq_true_eq] at h1
  exact h1 x hx
theorem SR.cut {w : World} {F : Mem} {L : Lay} {b0 : Nat} {g : Nat → Option Obj} (h : SR w F L b0 g) {ids : List Nat} (hc : closed g ids = true) : SR w F (cutL L ids) b0 (getO (subStore g ids)) := by
  refine ⟨h.mem, fun o ho => ?_, fun o ob ho => ?_, fun o o' i i' hi hi' e => ?_⟩
  · rw [getO_sub] at ho
    unfold cutL
    split at ho
    · rename_i hin; rw [if_pos hin]; exact h.non o ho
    · rename_i hin; rw [if_neg hin]
  · rw [getO_sub] at ho
    split at ho
    · rename_i hin
      obtain ⟨i, arr, hL, r1, r2, r3, r4, hh, r5, hcs, hfr⟩ := h.obj o ob ho
      refine ⟨i, arr, by simp [cutL, hin, hL], r1, r2, r3, r4, hh, r5, fun j u hu => ?_, hfr⟩
      obtain ⟨h1, v, hv, hr⟩ := hcs j u hu
      exact ⟨h1, v, hv, hr.cut fun x hx => closed_spec hc hin ho x (refsL_mem hu hx)⟩
    · simp at ho
  · unfold cutL at hi hi'
    split at hi
    · split at hi'
      · exact h.inj o o' i i' hi hi' e
      · simp at hi'
    · simp at hi
def orL (A B : Lay) : Lay := fun x => (A x).or (B x)
section
variable {P : Program} {an : An}
theorem docall_data {k id f : Nat} {us : List U} {g : Nat → Option Obj} {nx : Nat} {r : CallRes} {w : World} {F : Mem} {L : Lay} {b0 : Nat} {vs : List Value} (hsp : SpecOk P an) (hk : PcOk P an k)
    (hc : ¬ (us.any isPtr || an.io f || an.ior f) = true) (h : docall P an (k + 1) id f us g nx = some r) (hS : SR w F L b0 g) (hA : Args F L us vs) (hid : g id = none) (hb : b0 ≤ w.heap.size) :
    Calls P f vs.toArray w (CallPost w F L b0 (updF g r.res.up) r.res.u) := by
  simp only [docall, forceUN_eq, forceDN_eq, forceNs_eq, forceUp_eq, forceL_eq] at h
  rw [if_neg hc] at h
  split at h
  · simp at h
  · rename_i ds hds
    have hsn := hS.snapped (ds.flatMap (·.2))
    have hid1 : updF g (snapAll g (ds.flatMap (·.2))) id = none := by
      cases e : updF g (snapAll g (ds.flatMap (·.2))) id with
      | none => rfl
      | some ob =>
        rcases updF_from _ _ id (by rw [e]; simp) with h1 | h1
        · exact absurd hid (snap_ids h1).2
        · exact absurd hid h1
    have hargs : Args (FS F w L g (ds.flatMap (·.2))) none0 (ds.map fun d => U.dat d.1) vs := by
      refine ⟨by rw [hA.1, List.length_map, (mapM_some hds).1], fun i u v hu hv => ?_⟩
      rw [List.getElem?_map] at hu
      obtain ⟨d, hd, rfl⟩ := Option.map_eq_some_iff.1 hu
      obtain ⟨u', hu', hd'⟩ := mapM_back hds hd
      exact .dat _ _ ((toD_rep hS 40 u' v d hd' (hA.2 i u' v hu' hv)).mono (FS_mono fun z hz => List.mem_flatMap.2 ⟨d, List.mem_of_getElem? hd, hz⟩))
    split at h
    · rename_i rs hrs
      obtain rfl := Option.some.inj h
      have hh := hsp f _ rs hrs
      have hargs2 : Args (FS F w L g (ds.flatMap (·.2))) none0 ((ds.map (·.1)).map U.dat) vs := by rw [List.map_map]; exact hargs
      refine Calls.mono (hh.calls w _ vs hsn.1.mem hargs2) fun e w' he => ?_
      obtain ⟨v, F', L', rfl, hE, hm, hr⟩ := he
      exact ⟨v, F', L, rfl, hsn.2.after hE, hsn.1.after hE hm, hr.mono (.refl _) (fun o i hi => by simp [none0] at hi)⟩
    split at h
    · rename_i u st' nx' hp
      have hcall := hk f _ _ _ _ _ _ w (FS F w L g (ds.flatMap (·.2))) none0 w.heap.size vs hp hsn.1.start hargs (fun x _ => rfl) (Nat.le_refl _)
      split at h
      · rename_i l
        obtain ⟨q, hq, rfl⟩ := Option.map_eq_some_iff.1 h
        refine Calls.mono hcall fun e w' he => ?_
        obtain ⟨v, F', L', rfl, hE, hS', hr⟩ := he
        cases hr with
        | tup _ vals hl hR =>
          cases l with
          | nil =>
            simp only [bringAll, Option.some.injEq] at hq
            subst hq
            have hs := hS'.snapped []
            refine ⟨_, _, L, rfl, hsn.2.after (hE.trans hs.2), ?_, .tup [] vals hl (fun i u v hu => by simp at hu)⟩
            simp only [List.append_nil]
            exact hsn.1.after (hE.trans hs.2) hs.1.mem
          | cons a l =>
            simp only [bringAll, forceDN_eq] at hq
            split at hq
            · rename_i b up ds' hbr hds'
              obtain rfl := Option.some.inj hq
              obtain ⟨x, xs, rfl⟩ : ∃ x xs, vals = x :: xs := by
                cases vals with
                | nil => simp at hl
                | cons x xs => exact ⟨x, xs, rfl⟩
              obtain ⟨S, hSS⟩ := bring_ok hsn.1 hid1 hE hS' hb (hR 0 a x rfl rfl) hbr
              obtain ⟨L2, k1, k2, k3, k4⟩ := hSS (S ++ ds'.flatMap (·.2)) (fun x hx => List.mem_append_left _ hx) true (fun h => by simp at h)
              refine ⟨_, _, L2, rfl, k3 F hsn.2, ?_, .tup _ _ (by have := (mapM_some hds').1; simp at hl ⊢; omega) fun i u v hu hv => ?_⟩
              · simp only [updF_append]; exact k1
              · cases i with
                | zero => simp at hu hv; subst hu; subst hv; exact k2
                | succ i =>
                  simp only [List.getElem?_cons_succ, List.getElem?_map] at hu hv
                  obtain ⟨d, hd, rfl⟩ := Option.map_eq_some_iff.1 hu
                  obtain ⟨y, hy, hyd⟩ := mapM_back hds' hd
                  exact .dat _ _ ((toD_rep hS' 40 y v d hyd (hR (i + 1) y v (by simpa using hy) (by simpa using hv))).mono (FS_mono fun z hz => List.mem_append_right _ (List.mem_flatMap.2 ⟨d, List.mem_of_getElem? hd, hz⟩)))
            · simp at hq
      · rename_i u hne
        obtain ⟨q, hq, rfl⟩ := Option.map_eq_some_iff.1 h
        refine Calls.mono hcall fun e w' he => ?_
        obtain ⟨v, F', L', rfl, hE, hS', hr⟩ := he
        obtain ⟨S, hSS⟩ := bring_ok hsn.1 hid1 hE hS' hb hr hq
        obtain ⟨L2, k1, k2, k3, k4⟩ := hSS S (fun x hx => hx) false (fun _ => rfl)
        refine ⟨v, _, L2, rfl, k3 F hsn.2, ?_, k2⟩
        simp only [updF_append]; exact k1
    · simp at h
theorem docall_objs {k id f : Nat} {us : List U} {g : Nat → Option Obj} {nx : Nat} {r : CallRes} {w : World} {F : Mem} {L : Lay} {b0 : Nat} {vs : List Value} (hk : PcOk P an k)
    (hc : (us.any isPtr || an.io f || an.ior f) = true) (h : docall P an (k + 1) id f us g nx = some r) (hS : SR w F L b0 g) (hA : Args F L us vs) (hnx : ∀ x, nx ≤ x → g x = none) (hb : b0 ≤ w.heap.size) :
    Calls P f vs.toArray w (CallPost w F L b0 (updF g r.res.up) r.res.u) := by
  simp only [docall, forceUN_eq, forceDN_eq, forceNs_eq, forceUp_eq, forceL_eq] at h
  rw [if_pos hc] at h
  split at h
  · simp at h
  · rename_i as has
    have hsn := hS.snapped (as.flatMap (·.2))
    have hnx1 : ∀ x, nx ≤ x → updF g (snapAll g (as.flatMap (·.2))) x = none := by
      intro x hx
      cases e : updF g (snapAll g (as.flatMap (·.2))) x with
      | none => rfl
      | some ob =>
        rcases updF_from _ _ x (by rw [e]; simp) with h1 | h1
        · exact absurd (hnx x hx) (snap_ids h1).2
        · exact absurd (hnx x hx) h1
    have hargs : Args (FS F w L g (as.flatMap (·.2))) L (as.map (·.1)) vs := by
      refine ⟨by rw [hA.1, List.length_map, (mapM_some has).1], fun i u v hu hv => ?_⟩
      rw [List.getElem?_map] at hu
      obtain ⟨d, hd, rfl⟩ := Option.map_eq_some_iff.1 hu
      obtain ⟨u', hu', hd'⟩ := mapM_back has hd
      unfold argIo at hd'
      split at hd'
      · obtain rfl := Option.some.inj hd'
        exact (hA.2 i u' v hu' hv).mono (FS_le _ _ _ _ _) (.refl _)
      · obtain ⟨d', hd2, rfl⟩ := Option.map_eq_some_iff.1 hd'
        exact .dat _ _ ((toD_rep hS 40 u' v d' hd2 (hA.2 i u' v hu' hv)).mono (FS_mono fun z hz => List.mem_flatMap.2 ⟨_, List.mem_of_getElem? hd, hz⟩))
    split at h
    · rename_i hcl
      simp only [Bool.and_eq_true, List.all_eq_true, List.contains_eq_mem, decide_eq_true_eq] at hcl
      obtain ⟨hcl, hin⟩ := hcl
      generalize hids : reach (updF g (snapAll g (as.flatMap (·.2)))) 400 (refsL (as.map (·.1))) [] = ids at h hcl hin
      generalize hg1 : updF g (snapAll g (as.flatMap (·.2))) = g1 at h hcl hnx1 hsn hids
      generalize hF1 : FS F w L g (as.flatMap (·.2)) = F1 at hsn hargs
      obtain ⟨hS1, hE1⟩ := hsn
      split at h
      · rename_i u st' nx' hp
        obtain rfl := Option.some.inj h
        have hg := (gr_all P an k).1 _ _ _ _ _ _ _ hp
        have hargs' : Args F1 (cutL L ids) (as.map (·.1)) vs := ⟨hargs.1, fun i u v hu hv => (hargs.2 i u v hu hv).cut fun x hx => hin x (refsL_mem hu hx)⟩
        have hcall := hk f _ _ _ _ _ _ w F1 (cutL L ids) b0 vs hp (hS1.cut hcl) hargs' (fun x hx => by rw [getO_sub]; split <;> simp [hnx1 x hx]) hb
        refine Calls.mono hcall fun e w' he => ?_
        obtain ⟨v, F', L', rfl, hE, hS', hr⟩ := he
        have fA : ∀ x i, L' x = some i → x ∈ ids ∨ L x = none := by
          intro x i hx
          have h1 : getO st' x ≠ none := fun e => by rw [hS'.non x e] at hx; simp at hx
          rcases hg.news x h1 with h2 | h2
          · rw [getO_sub] at h2
            split at h2
            · rename_i hh; exact .inl hh
            · exact absurd rfl h2
          · exact .inr (hS1.non x (hnx1 x h2.1))
        have le1 : LLe L (orL L' L) := by
          intro o i hi
          cases e : L' o with
          | none => exact ⟨i, by simp [orL, e, hi], .inl rfl⟩
          | some i' =>
            rcases fA o i' e with h1 | h1
            · obtain ⟨j, hj, hr⟩ := hE.layLe o i (by simp [cutL, h1, hi])
              exact ⟨j, by simp [orL, hj], hr⟩
            · rw [h1] at hi; simp at hi
        have le2 : LLe L' (orL L' L) := fun o i hi => ⟨i, by simp [orL, hi], .inl rfl⟩
        have cutSome : ∀ o i, cutL L ids o = some i → o ∈ ids ∧ L o = some i := by
          intro o i hi
          unfold cutL at hi
          split at hi
          · rename_i hh; exact ⟨hh, hi⟩
          · simp at hi
        have apartB : ∀ o i, L o = some i → o ∉ ids → ∀ o' i', cutL L ids o' = some i' → i'.blk ≠ i.blk := by
          intro o i hi ho o' i' hi' e
          obtain ⟨h1, h2⟩ := cutSome o' i' hi'
          have := hS1.inj o' o i' i h2 hi e
          subst this
          exact ho h1
        have lt : ∀ o i, L o = some i → i.blk < w.heap.size := by
          intro o i hi
          cases e : g1 o with
          | none => rw [hS1.non o e] at hi; simp at hi
          | some ob =>
            obtain ⟨j, arr, hj, _, _, _, _, hh, _⟩ := hS1.obj o ob e
            rw [hi] at hj
            obtain rfl := Option.some.inj hj
            exact hh.lt
        have notIn : ∀ o i, L o = some i → L' o = none → o ∉ ids := by
          intro o i hi hn hin
          obtain ⟨j, hj, _⟩ := hE.layLe o i (by simp [cutL, hin, hi])
          rw [hn] at hj; simp at hj
        have hview : ∀ x, updF g (snapAll g (as.flatMap (·.2)) ++ asUp st') x = (getO st' x).or (g1 x) := by
          intro x
          rw [updF_append, hg1, updF_asUp]
        refine ⟨v, F', orL L' L, rfl, ⟨hE.size, hE.os, hE.tape, hE.output, hE1.memLe.trans hE.memLe, le1, fun k hk hn => ?_, fun a ha => ?_, fun o i hi => ?_⟩, ⟨hS'.mem, fun o ho => ?_, fun o ob ho => ?_, fun o o' i i' hi hi' e => ?_⟩, hr.mono (.refl _) le2⟩
        · exact hE.frame k hk fun o i hi => hn o i (cutSome o i hi).2
        · by_cases e : F1 a = F a
          · rcases hE.newMem a (by rw [e]; exact ha) with h1 | ⟨o, i, h1, h2⟩
            · exact .inl h1
            · exact .inr ⟨o, i, (cutSome o i h1).2, h2⟩
          · exact hE1.newMem a e
        · cases e : L' o with
          | none => simp [orL, e] at hi; exact .inl ⟨o, i, hi, rfl⟩
          | some j =>
            simp [orL, e] at hi
            subst hi
            rcases hE.newObj o j e with ⟨o', i', h1, h2⟩ | h1
            · exact .inl ⟨o', i', (cutSome o' i' h1).2, h2⟩
            · exact .inr h1
        · rw [hview] at ho
          simp at ho
          simp [orL, hS'.non o ho.1, hS1.non o ho.2]
        · rw [hview] at ho
          cases e : getO st' o with
          | some ob' =>
            rw [e] at ho
            simp at ho
            subst ho
            obtain ⟨i, arr, hL, r1, r2, r3, r4, hh, r5, hcs, hfr⟩ := hS'.obj o ob' e
            exact ⟨i, arr, by simp [orL, hL], r1, r2, r3, r4, hh, r5, fun j u hu => let ⟨h1, v, hv, hr⟩ := hcs j u hu; ⟨h1, v, hv, hr.mono (.refl _) le2⟩, hfr⟩
          | none =>
            rw [e] at ho
            simp at ho
            obtain ⟨i, arr, hL, r1, r2, r3, r4, hh, r5, hcs, hfr⟩ := hS1.obj o ob ho
            have hnin := notIn o i hL (hS'.non o e)
            refine ⟨i, arr, by simp [orL, hS'.non o e, hL], r1, r2, r3, r4, ?_, r5, fun j u hu => let ⟨h1, v, hv, hr⟩ := hcs j u hu; ⟨h1, v, hv, hr.mono hE.memLe le1⟩, fun off hoff => ?_⟩
            · exact hh.same (hE.frame i.blk (lt o i hL) fun o' i' hi' => apartB o i hL hnin o' i' hi')
            · by_cases e2 : F' ⟨i.blk, off, none⟩ = F1 ⟨i.blk, off, none⟩
              · rw [e2]; exact hfr off hoff
              · rcases hE.newMem _ e2 with h1 | ⟨o', i', h1, h2⟩
                · have := lt o i hL; simp at h1; omega
                · exact absurd h2 (apartB o i hL hnin o' i' h1)
        · -- one place, one object
          have mixed : ∀ o o' i i', L' o = some i → L' o' = none → L o' = some i' → i.blk = i'.blk → False := by
            intro o o' i i' h1 h2 h3 h4
            have hnin := notIn o' i' h3 h2
            rcases hE.newObj o i h1 with ⟨o2, i2, h5, h6⟩ | h5
            · exact apartB o' i' h3 hnin o2 i2 h5 (by omega)
            · have := lt o' i' h3; omega
          cases e1 : L' o with
          | some a =>
            simp [orL, e1] at hi
            subst hi
            cases e2 : L' o' with
            | some b =>
              simp [orL, e2] at hi'
              subst hi'
              exact hS'.inj o o' a b e1 e2 e
            | none =>
              simp [orL, e2] at hi'
              exact (mixed o o' a i' e1 e2 hi' e).elim
          | none =>
            simp [orL, e1] at hi
            cases e2 : L' o' with
            | some b =>
              simp [orL, e2] at hi'
              subst hi'
              exact (mixed o' o b i e2 e1 hi e.symm).elim
            | none =>
              simp [orL, e2] at hi'
              exact hS1.inj o o' i i' hi hi' e
      · simp at h
    · simp at h
end
end Go.Proofs.Ytjofhegodknmaaa.V
