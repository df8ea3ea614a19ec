/- V, 22: what a run leaves, without what is not looked at any more. -/
import Derived.Test.YtjofhegodknmaaaV21
set_option linter.unusedSimpArgs false
set_option linter.unusedVariables false
namespace Go.Proofs.Ytjofhegodknmaaa.V
open Go Go.RowKit
def mask : List Bool → List U → List U
  | [], l => l.map fun _ => .junk
  | _, [] => []
  | true :: k, u :: l => forceU u fun u => u :: mask k l
  | false :: k, _ :: l => .junk :: mask k l
theorem mask_get : ∀ {k : List Bool} {l : List U} {t : Nat} {u : U}, (mask k l)[t]? = some u → u = .junk ∨ l[t]? = some u
  | [], l, t, u, h => by
    simp only [mask, List.getElem?_map] at h
    obtain ⟨x, _, rfl⟩ := Option.map_eq_some_iff.1 h
    exact .inl rfl
  | _ :: _, [], t, u, h => by simp [mask] at h
  | true :: k, a :: l, t, u, h => by
    simp only [mask, forceU_eq] at h
    cases t with
    | zero => exact .inr h
    | succ t => simp at h ⊢; exact mask_get h
  | false :: k, a :: l, t, u, h => by
    simp only [mask] at h
    cases t with
    | zero => simp at h; exact .inl h.symm
    | succ t => simp at h ⊢; exact mask_get h
theorem mask_length : ∀ (k : List Bool) (l : List U), (mask k l).length = l.length
  | [], l => by simp [mask]
  | _ :: _, [] => by simp [mask]
  | true :: k, a :: l => by simp [mask, forceU_eq, mask_length k l]
  | false :: k, a :: l => by simp [mask, mask_length k l]
theorem getO_in_st {s : Store} {o : Nat} (h : getO s o ≠ none) : ∃ p ∈ s, p.1 = o := by
  induction s with
  | nil => simp [getO] at h
  | cons p r ih =>
    obtain ⟨o', e⟩ := p
    simp only [getO] at h
    split at h
    · rename_i he; exact ⟨(o', e), List.mem_cons_self .., he⟩
    · obtain ⟨q, hq, he⟩ := ih h; exact ⟨q, by simp [hq], he⟩
section
variable [Sig] {P : Program} {an : An}
end
def dataO (g : Nat → Option Obj) (o : Nat) : Option ((Nat × Obj) × List Nat) :=
  match g o with
  | some ob =>
    match ob.cells.mapM (toD g 40) with
    | some cs => forceDN cs fun cs => some ((o, { ob with cells := cs.map fun c => .dat c.1 }), cs.flatMap (·.2))
    | none => none
  | none => none
def weakD (s s' : St) (ids : List Nat) (keep : List Bool) (nx : Nat) : Option St :=
  match ids.mapM (dataO (getO s'.st)) with
  | some l =>
    if (l.flatMap (·.2)).all (fun x => !ids.contains x) && (refsL (mask keep s'.tm)).all (fun x => ids.contains x) && (s.st.all fun p => ids.contains p.1) && (ids.all fun x => decide (x < nx)) then
      forceUp (l.map (·.1)) fun st => forceL (mask keep s'.tm) fun tm => some ⟨tm, st, nx⟩
    else none
  | none => none
theorem getO_pair {s : Store} {o : Nat} {e : Obj} (h : getO s o = some e) : (o, e) ∈ s := by
  induction s with
  | nil => simp [getO] at h
  | cons p r ih =>
    obtain ⟨o', e'⟩ := p
    simp only [getO] at h
    split at h
    · rename_i he
      subst he
      obtain rfl := Option.some.inj h
      simp
    · exact List.mem_cons_of_mem _ (ih h)
theorem getO_key {s : Store} {o : Nat} {e : Obj} (h : (o, e) ∈ s) : getO s o ≠ none := by
  induction s with
  | nil => simp at h
  | cons p r ih =>
    obtain ⟨o', e'⟩ := p
    simp only [getO]
    split
    · simp
    · rename_i hne
      rcases List.mem_cons.1 h with h1 | h1
      · injection h1 with h2 h3; exact absurd h2.symm hne
      · exact ih h1
theorem dataO_spec {g : Nat → Option Obj} {o : Nat} {q : (Nat × Obj) × List Nat} (h : dataO g o = some q) :
    ∃ ob cs, g o = some ob ∧ ob.cells.mapM (toD g 40) = some cs ∧ q = ((o, { ob with cells := cs.map fun c => .dat c.1 }), cs.flatMap (·.2)) := by
  unfold dataO at h
  split at h
  · rename_i ob hob
    split at h
    · rename_i cs hcs
      simp only [forceDN_eq, Option.some.injEq] at h
      exact ⟨ob, cs, hob, hcs, h.symm⟩
    · simp at h
  · simp at h
section
variable [Sig] {P : Program} {an : An}
theorem Run.data {c : Code} {s : St} {x : X} {s' s2 : St} (h : Run P c s x s') {ids : List Nat} {keep : List Bool} {nx : Nat} (hw : weakD s s' ids keep nx = some s2) : Run P c s x s2 := by
  unfold weakD at hw
  split at hw
  · rename_i l hl
    split at hw
    · rename_i hc
      simp only [forceUp_eq, forceL_eq, Option.some.injEq] at hw
      subst hw
      simp only [Bool.and_eq_true] at hc
      obtain ⟨⟨⟨hdis, hrf⟩, hold⟩, hlt⟩ := hc
      rw [List.all_eq_true] at hdis hrf hold hlt
      have hkeep : ∀ o, getO s.st o ≠ none → o ∈ ids := by
        intro o ho
        obtain ⟨p, hp, rfl⟩ := getO_in_st ho
        simpa using hold p hp
      have hobj : ∀ o e, getO (l.map (·.1)) o = some e → o ∈ ids ∧ ∃ ob cs, getO s'.st o = some ob ∧ ob.cells.mapM (toD (getO s'.st) 40) = some cs ∧ e = { ob with cells := cs.map fun c => .dat c.1 } ∧ ∀ z ∈ cs.flatMap (·.2), z ∈ l.flatMap (·.2) := by
        intro o e he
        have hm := getO_pair he
        obtain ⟨q, hq, hqe⟩ := List.mem_map.1 hm
        obtain ⟨i, hi⟩ := List.getElem?_of_mem hq
        obtain ⟨o', ho', hd⟩ := mapM_back hl hi
        obtain ⟨ob, cs, h1, h2, rfl⟩ := dataO_spec hd
        simp only [Prod.mk.injEq] at hqe
        obtain ⟨rfl, rfl⟩ := hqe
        exact ⟨List.mem_of_getElem? ho', ob, cs, h1, h2, rfl, fun z hz => List.mem_flatMap.2 ⟨_, hq, hz⟩⟩
      have hin : ∀ o ∈ ids, getO (l.map (·.1)) o ≠ none := by
        intro o ho
        obtain ⟨i, hi⟩ := List.getElem?_of_mem ho
        obtain ⟨q, hq, hd⟩ := (mapM_some hl).2 i o hi
        obtain ⟨ob, cs, h1, h2, rfl⟩ := dataO_spec hd
        exact getO_key (e := { ob with cells := cs.map fun c => .dat c.1 }) (List.mem_map.2 ⟨_, List.mem_of_getElem? hq, rfl⟩)
      refine ⟨fun _ y hy => ?_, fun w F L b0 a hS hT hd hf hb => ?_⟩
      · simp only at hy ⊢
        cases e : getO (l.map (·.1)) y with
        | none => rfl
        | some ob =>
          have := hlt y (hobj y ob e).1
          simp at this
          omega
      · refine Code.wp_mono (fun e a' w' hp => ?_) (h.wp w F L b0 a hS hT hd hf hb)
        obtain ⟨rfl, hd', F', L', hE, hS', hT'⟩ := hp
        have hs := hS'.snapped (l.flatMap (·.2))
        refine ⟨rfl, hd', FS F' w' L' (getO s'.st) (l.flatMap (·.2)), cutL L' ids, ?_, ⟨hs.1.mem, fun o ho => ?_, fun o ob' ho => ?_, fun o o' i i' hi hi' e => ?_⟩, ?_⟩
        · have hE2 := hE.trans hs.2
          refine ⟨hE2.size, hE2.os, hE2.tape, hE2.output, hE2.memLe, fun o i hi => ?_, hE2.frame, hE2.newMem, fun o i hi => ?_⟩
          · have hin : o ∈ ids := hkeep o fun e => by rw [hS.non o e] at hi; simp at hi
            obtain ⟨i', hi', hr⟩ := hE2.layLe o i hi
            exact ⟨i', by simp [cutL, hin, hi'], hr⟩
          · unfold cutL at hi
            split at hi
            · exact hE2.newObj o i hi
            · simp at hi
        · unfold cutL
          split
          · rename_i hi; exact absurd ho (hin o hi)
          · rfl
        · obtain ⟨hoi, ob, cs, hob, hcs, rfl, hsub⟩ := hobj o ob' ho
          have hnS : o ∉ l.flatMap (·.2) := by
            intro hc
            have := hdis o hc
            simp [hoi] at this
          have hob2 : updF (getO s'.st) (snapAll (getO s'.st) (l.flatMap (·.2))) o = some ob := by
            rw [updF_snap (getO s'.st) (l.flatMap (·.2)) (getO s'.st) (fun _ => .inl rfl), if_neg hnS, hob]
          obtain ⟨i, arr, hL, r1, r2, r3, r4, hh, r5, hcl, hfr⟩ := hs.1.obj o ob hob2
          obtain ⟨i2, arr2, hL2, _, _, _, _, hh2, _, hcl2, _⟩ := hS'.obj o ob hob
          rw [hL] at hL2
          obtain rfl := Option.some.inj hL2
          obtain rfl := hh.inj hh2
          have hlen : (cs.map fun c => U.dat c.1).length = ob.cells.length := by rw [List.length_map, (mapM_some hcs).1]
          refine ⟨i, arr, by simp [cutL, hoi, hL], r1, r2, r3, r4, hh.like rfl rfl (by simp only; exact hlen), by simp only; rw [hlen]; exact r5, fun j u hu => ?_, fun off hoff => hfr off (fun hsn => by have := hoff hsn; simp only at this; rw [hlen] at this; exact this)⟩
          simp only [List.getElem?_map] at hu
          obtain ⟨c, hc, rfl⟩ := Option.map_eq_some_iff.1 hu
          obtain ⟨y, hy, hyd⟩ := mapM_back hcs hc
          obtain ⟨h1, v, hv, hr⟩ := hcl2 j y hy
          exact ⟨fun he => toD_one 40 hyd (h1 he), v, hv, .dat _ _ ((toD_rep hS' 40 y v c hyd hr).mono (FS_mono fun z hz => hsub z (List.mem_flatMap.2 ⟨c, List.mem_of_getElem? hc, hz⟩)))⟩
        · unfold cutL at hi hi'
          split at hi
          · split at hi'
            · exact hS'.inj o o' i i' hi hi' e
            · simp at hi'
          · simp at hi
        · refine ⟨by simp only [mask_length]; exact hT'.1, fun t u hu => ?_⟩
          simp only at hu
          have hin : ∀ r ∈ refs u, r ∈ ids := fun r hr => by simpa using hrf r (refsL_mem hu hr)
          rcases mask_get hu with rfl | h1
          · have hlt2 : t < a'.tmps.size := by
              rw [hT'.1, ← mask_length keep s'.tm]
              exact (List.getElem?_eq_some_iff.1 hu).1
            exact ⟨a'.tmps[t], by simp [hlt2], .junk _⟩
          · obtain ⟨v, hv, hr⟩ := hT'.2 t u h1
            exact ⟨v, hv, (hr.mono (FS_le _ _ _ _ _) (.refl _)).cut hin⟩
    · simp at hw
  · simp at hw
end
end Go.Proofs.Ytjofhegodknmaaa.V
