/- V, 12: calls, if what is called is sound. -/
import Derived.Test.YtjofhegodknmaaaV11
set_option linter.unusedSimpArgs false
set_option linter.unusedVariables false
namespace Go.Proofs.Ytjofhegodknmaaa.V
open Go
variable [Sig]
def CallPost (w : World) (F : Mem) (L : Lay) (b0 : Nat) (g : Nat → Option Obj) (u : U) : Ending → World → Prop := fun e w' =>
  ∃ v F' L', e = .returned v ∧ Evo w F L w' F' L' ∧ SR w' F' L' b0 g ∧ RepU F' L' u v
def Args (F : Mem) (L : Lay) (us : List U) (vs : List Value) : Prop :=
  vs.length = us.length ∧ ∀ (i : Nat) u v, us[i]? = some u → vs[i]? = some v → RepU F L u v
def PcOk (P : Program) (an : An) (k : Nat) : Prop :=
  ∀ f us st nx u st' nx' w F L b0 vs, pcall P an k f us st nx = some (u, st', nx') → SR w F L b0 (getO st) → Args F L us vs →
    (∀ x, nx ≤ x → getO st x = none) → b0 ≤ w.heap.size → Calls P f vs.toArray w (CallPost w F L b0 (getO st') u)
structure Holds (P : Program) (f : Nat) (ds rs : List D) : Prop where
  body : ∃ fn c, P.funcs[f]? = some fn ∧ fn.body = some c
  calls : ∀ (w : World) (F : Mem) (vs : List Value), (∀ a v, F a = some v → w.cell? a = some v) → Args F none0 (ds.map .dat) vs →
    Calls P f vs.toArray w fun e w' => ∃ v F' L', e = .returned v ∧ Evo w F none0 w' F' L' ∧ (∀ a v, F' a = some v → w'.cell? a = some v) ∧ RepU F' none0 (resD rs) v
structure CallHolds (P : Program) (f : Nat) (us : List U) (st : Store) (nx : Nat) (u : U) (st' : Store) : Prop where
  body : ∃ fn c, P.funcs[f]? = some fn ∧ fn.body = some c
  calls : ∀ (w : World) (F : Mem) (L : Lay) (b0 : Nat) (vs : List Value), SR w F L b0 (getO st) → Args F L us vs → (∀ x, nx ≤ x → getO st x = none) → b0 ≤ w.heap.size →
    Calls P f vs.toArray w (CallPost w F L b0 (getO st') u)
def CallOk (P : Program) (an : An) : Prop := ∀ f us st nx u st' nx', an.call f us st nx = some (u, st', nx') → CallHolds P f us st nx u st'
def SpecOk (P : Program) (an : An) : Prop := ∀ f ds rs, an.spec f ds = some rs → Holds P f ds rs
section
variable {w w' : World} {F F1 F2 : Mem} {L L0 : Lay} {b0 : Nat} {g g1 : Nat → Option Obj}
def addLay (L : Lay) (id : Nat) (i : Info) : Lay := fun x => if x = id then some i else L x
theorem addLay_le {L : Lay} {id : Nat} {i : Info} (h : L id = none) : LLe L (addLay L id i) := have _s : Sig := inferInstance; fun o j hj => by
  refine ⟨j, ?_, .inl rfl⟩
  have : o ≠ id := fun e => by rw [e, h] at hj; simp at hj
  simp [addLay, this, hj]
theorem SR.takes {id : Nat} {i : Info} {ob : Obj} {arr : Array Value} (h : SR w' F2 L b0 g) (hid : g id = none) (h0 : ob.gen = i.gen) (he : i.esz = ob.esz) (hs : 0 < ob.esz → i.size = arr.size) (hb : b0 ≤ i.blk)
    (hh : ObjAt w' i.blk arr ob) (hl : ob.cells.length ≤ arr.size)
    (hc : ∀ (j : Nat) u, ob.cells[j]? = some u → (0 < ob.esz → u.one = true) ∧ ∃ v, arr[j]? = some v ∧ RepU F2 L u v)
    (hf : ∀ off, (ob.snap = true → ob.cells.length ≤ off) → F2 ⟨i.blk, off, none⟩ = none) (hn : ∀ o j, L o = some j → j.blk ≠ i.blk) :
    SR w' F2 (addLay L id i) b0 (updF g [(id, ob)]) := by
  have hLid : L id = none := h.non id hid
  have hle := addLay_le (i := i) hLid
  refine ⟨h.mem, fun o ho => ?_, fun o ob' ho => ?_, fun o o' j j' hj hj' e => ?_⟩
  · simp only [updF] at ho
    by_cases e : o = id
    · subst e; simp at ho
    · simp only [if_neg e] at ho
      simp only [addLay, if_neg e]
      exact h.non o ho
  · simp only [updF] at ho
    by_cases e : o = id
    · subst e
      simp at ho
      subst ho
      exact ⟨i, arr, by simp [addLay], h0.symm, he, hs, hb, hh, hl, fun j u hu => let ⟨h1, v, hv, hr⟩ := hc j u hu; ⟨h1, v, hv, hr.mono (.refl _) hle⟩, hf⟩
    · simp only [if_neg e] at ho
      obtain ⟨i', arr', hL, r1, r2, r3, r4, hh', r5, hcs, hfr⟩ := h.obj o ob' ho
      exact ⟨i', arr', by simp [addLay, e, hL], r1, r2, r3, r4, hh', r5, fun j u hu => let ⟨h1, v, hv, hr⟩ := hcs j u hu; ⟨h1, v, hv, hr.mono (.refl _) hle⟩, hfr⟩
  · simp only [addLay] at hj hj'
    by_cases e1 : o = id
    · by_cases e2 : o' = id
      · rw [e1, e2]
      · rw [if_pos e1] at hj
        rw [if_neg e2] at hj'
        obtain rfl := Option.some.inj hj
        exact absurd e.symm (hn o' j' hj')
    · by_cases e2 : o' = id
      · rw [if_neg e1] at hj
        rw [if_pos e2] at hj'
        obtain rfl := Option.some.inj hj'
        exact absurd e (hn o j hj)
      · rw [if_neg e1] at hj
        rw [if_neg e2] at hj'
        exact h.inj o o' j j' hj hj' e
theorem Evo.takes {id : Nat} {i : Info} (h : Evo w F L w' F2 L) (hid : L id = none) (hb : w.heap.size ≤ i.blk) : Evo w F L w' F2 (addLay L id i) where
  size := h.size
  os := h.os
  tape := h.tape
  output := h.output
  memLe := h.memLe
  layLe := addLay_le hid
  frame := h.frame
  newMem := h.newMem
  newObj := fun o j hj => by
    simp only [addLay] at hj
    by_cases e : o = id
    · rw [if_pos e] at hj; obtain rfl := Option.some.inj hj; exact .inr hb
    · rw [if_neg e] at hj; exact .inl ⟨o, j, hj, rfl⟩
def snapUp (sn : Bool) (l : List (Nat × Obj)) : List (Nat × Obj) := if sn then l.map (fun p => (p.1, { p.2 with snap := true })) else l
theorem bring_ok {st' : Store} {L' : Lay} {F' : Mem} {id : Nat} {ow : Bool} {u : U} {v : Value} {q : U × List (Nat × Obj)}
    (hS : SR w F1 L b0 g) (hid : g id = none) (hE : Evo w F1 none0 w' F' L') (hS' : SR w' F' L' w.heap.size (getO st')) (hb : b0 ≤ w.heap.size) (hr : RepU F' L' u v) (h : bring st' ow id u = some q) :
    ∃ S : List Nat, ∀ S', (∀ x ∈ S, x ∈ S') → ∀ sn : Bool, (sn = false → S' = S) → ∃ L2, SR w' (FS F' w' L' (getO st') S') L2 b0 (updF g (snapUp sn q.2)) ∧ RepU (FS F' w' L' (getO st') S') L2 q.1 v ∧
      (∀ F, Evo w F L w F1 L → Evo w F L w' (FS F' w' L' (getO st') S') L2) ∧ LLe L L2 := by
  have hdat : ∀ d, toD (getO st') 40 u = some d → q = (.dat d.1, []) → ∃ S : List Nat, ∀ S', (∀ x ∈ S, x ∈ S') → ∀ sn : Bool, (sn = false → S' = S) → ∃ L2, SR w' (FS F' w' L' (getO st') S') L2 b0 (updF g (snapUp sn q.2)) ∧ RepU (FS F' w' L' (getO st') S') L2 q.1 v ∧
      (∀ F, Evo w F L w F1 L → Evo w F L w' (FS F' w' L' (getO st') S') L2) ∧ LLe L L2 := by
    intro d hd hq
    subst hq
    refine ⟨d.2, fun S' hS0 sn _ => ⟨L, ?_, ?_, fun F hF => ?_, .refl _⟩⟩
    · have hs := hS'.snapped S'
      have e0 : snapUp sn ([] : List (Nat × Obj)) = [] := by cases sn <;> rfl
      rw [e0]
      exact hS.after (hE.trans hs.2) hs.1.mem
    · exact .dat _ _ ((toD_rep hS' 40 u v d hd hr).mono (FS_mono hS0))
    · exact hF.after (hE.trans (hS'.snapped S').2)
  simp only [bring, forceDN_eq, forceD_eq] at h
  split at h
  · rename_i o gn n
    split at h
    · rename_i ob hob
      split at h
      · rename_i hc
        split at h
        · rename_i ds hds
          obtain rfl := Option.some.inj h
          obtain ⟨i, arr, hL, r1, r2, r3, r4, hh, r5, hcs, hfr⟩ := hS'.obj o ob hob
          refine ⟨ds.flatMap (·.2), fun S' hS0 sn hsn => ?_⟩
          have hs := hS'.snapped S'
          have hE2 := hE.trans hs.2
          have hA := hS.after hE2 hs.1.mem
          have hLid := hS.non id hid
          obtain ⟨ob2, hob2, hc2, ht2, hsn2⟩ : ∃ ob2, updF (getO st') (snapAll (getO st') S') o = some ob2 ∧ ob2.cells = ob.cells ∧ ob2.ty = ob.ty ∧ (ob2.snap = true → ob.snap = true ∨ o ∈ S') := by
            rw [updF_snap (getO st') S' (getO st') (fun _ => .inl rfl)]
            by_cases ho : o ∈ S'
            · rw [if_pos ho, hob]; exact ⟨_, rfl, rfl, rfl, fun _ => .inr ho⟩
            · rw [if_neg ho, hob]; exact ⟨ob, rfl, rfl, rfl, fun h => .inl h⟩
          obtain ⟨i', arr', hL', _, _, _, _, hh', _, _, hfr'⟩ := hs.1.obj o _ hob2
          rw [hL] at hL'
          obtain rfl := Option.some.inj hL'
          obtain rfl := hh.inj hh'
          have hblk : ∀ o' j, L o' = some j → j.blk ≠ i.blk := by
            intro o' j hj e
            cases hg : g o' with
            | none => rw [hS.non o' hg] at hj; simp at hj
            | some ob' =>
              obtain ⟨j', arr2, hj', _, _, _, _, hh2, _⟩ := hS.obj o' ob' hg
              rw [hj] at hj'
              obtain rfl := Option.some.inj hj'
              have := hh2.lt
              omega
          have hlen : ds.length = ob.cells.length := (mapM_some hds).1
          have hup : snapUp sn [(id, { ob with gen := 0, snap := ob.snap || (ds.flatMap (·.2)).contains o, cells := ds.map fun d => .dat d.1 })] = [(id, { ob with gen := 0, snap := sn || (ob.snap || (ds.flatMap (·.2)).contains o), cells := ds.map fun d => .dat d.1 })] := by
            cases sn <;> simp [snapUp]
          rw [hup]
          refine ⟨addLay L id ⟨0, i.blk, i.size, i.esz⟩, ?_, ?_, fun F hF => ?_, addLay_le hLid⟩
          · refine hA.takes (i := ⟨0, i.blk, i.size, i.esz⟩) (arr := arr) hid rfl r2 r3 (by have := r4; simp only; omega) (hh.like rfl rfl (by simp [hlen])) (by simp [hlen]; exact r5) (fun j x hx => ?_) (fun off hoff => ?_) hblk
            · simp only [List.getElem?_map] at hx
              obtain ⟨d, hd, rfl⟩ := Option.map_eq_some_iff.1 hx
              obtain ⟨y, hy, hyd⟩ := mapM_back hds hd
              obtain ⟨h1, x, hx, hrx⟩ := hcs j y hy
              exact ⟨fun _ => toD_one 40 hyd (h1 hc.2.1), x, hx, .dat _ _ ((toD_rep hS' 40 y x d hyd hrx).mono (FS_mono fun z hz => hS0 z (List.mem_flatMap.2 ⟨d, List.mem_of_getElem? hd, hz⟩)))⟩
            · refine hfr' off (fun h2 => ?_)
              have hflag : (sn || (ob.snap || (ds.flatMap (·.2)).contains o)) = true := by
                cases sn with
                | true => rfl
                | false =>
                  rcases hsn2 h2 with h3 | h3
                  · simp [h3]
                  · rw [hsn rfl] at h3; simp only [Bool.false_or, Bool.or_eq_true, List.contains_eq_mem, decide_eq_true_eq]; exact .inr h3
              have := hoff hflag
              simp [hlen] at this
              rw [hc2]
              exact this
          · have key : ∀ (c : Nat) (hn : n ≤ c) (hc' : c * i.esz ≤ i.size), RepU (FS F' w' L' (getO st') S') (addLay L id ⟨0, i.blk, i.size, i.esz⟩) (.own id 0 0 n) (.slice (some ⟨i.blk, 0, none⟩) n c) := by
              intro c hn hc'
              have := RepU.own (F := FS F' w' L' (getO st') S') (L := addLay L id ⟨0, i.blk, i.size, i.esz⟩) id 0 n c ⟨0, i.blk, i.size, i.esz⟩ (by simp [addLay]) hn (by simpa using hc')
              simpa using this
            cases hr with
            | own _ _ _ c i' hL2 hn hc2 =>
              rw [hL] at hL2
              obtain rfl := Option.some.inj hL2
              have := key c hn (by simpa using hc2)
              simpa using this
            | ownEnd _ _ i' a hL2 => exact .ownEnd id 0 ⟨0, i.blk, i.size, i.esz⟩ a (by simp [addLay])
            | ownOld _ _ _ _ i' a c hL2 hlt =>
              rw [hL] at hL2
              obtain rfl := Option.some.inj hL2
              omega
          · exact (hF.after hE2).takes hLid r4
        · simp at h
      · simp at h
    · simp at h
  · split at h
    · rename_i d hd
      exact hdat d hd (Option.some.inj h).symm
    · simp at h
end
end Go.Proofs.Ytjofhegodknmaaa.V
