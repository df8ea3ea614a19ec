/- V, 11: which objects there are after a call. -/
import Derived.Test.YtjofhegodknmaaaV10
set_option linter.unusedSimpArgs false
set_option linter.unusedVariables false
namespace Go.Proofs.Ytjofhegodknmaaa.V
open Go
structure Gr (st : Store) (nx : Nat) (st' : Store) (nx' : Nat) : Prop where
  le : nx ≤ nx'
  keeps : ∀ x, getO st x ≠ none → getO st' x ≠ none
  news : ∀ x, getO st' x ≠ none → getO st x ≠ none ∨ (nx ≤ x ∧ x < nx')
theorem Gr.refl (st : Store) (nx : Nat) : Gr st nx st nx := ⟨Nat.le_refl _, fun _ h => h, fun _ h => .inl h⟩
theorem Gr.trans {a b c : Store} {i j k : Nat} (h : Gr a i b j) (h' : Gr b j c k) : Gr a i c k where
  le := Nat.le_trans h.le h'.le
  keeps := fun x hx => h'.keeps x (h.keeps x hx)
  news := fun x hx => by
    rcases h'.news x hx with h1 | h1
    · rcases h.news x h1 with h2 | h2
      · exact .inl h2
      · have := h'.le; exact .inr ⟨h2.1, by omega⟩
    · have := h.le; exact .inr ⟨by omega, h1.2⟩
structure UpOk (id nx : Nat) (g : Nat → Option Obj) (r : CallRes) : Prop where
  le : nx ≤ r.nx
  eq : r.cl = false → r.nx = nx
  up : ∀ x ∈ r.res.up.map (·.1), x = id ∨ (r.cl = true ∧ nx ≤ x ∧ x < r.nx) ∨ g x ≠ none
section
variable {P : Program} {an : An} {g : Nat → Option Obj} {id : Nat} {tm : List U} {r : Res}
theorem opPure_up {o : Oper} (h : opPure P tm o = some r) : r.up = [] := by
  unfold opPure at h
  repeat' split at h
  all_goals first | (simp at h; done) | (obtain ⟨d, hd, rfl⟩ := Option.map_eq_some_iff.1 h; rfl)
theorem opAlloc_up {t : TypeId} {cs : List U} (h : opAlloc P id t cs = some r) : ∀ x ∈ r.up.map (·.1), x = id ∨ g x ≠ none := by
  unfold opAlloc at h
  repeat' split at h
  all_goals first | (simp at h; done) | (obtain rfl := Option.some.inj h; intro x hx; simp at hx; exact .inl hx)
theorem opLoad_up {t : TypeId} {u : U} (h : opLoad P g t u = some r) : r.up = [] := by
  unfold opLoad at h
  repeat' split at h
  all_goals first | (simp at h; done) | (obtain rfl := Option.some.inj h; rfl) | (obtain ⟨d, hd, rfl⟩ := Option.map_eq_some_iff.1 h; rfl)
theorem opStore_up {t : TypeId} {a x : U} (h : opStore P g t a x = some r) : ∀ x ∈ r.up.map (·.1), x = id ∨ g x ≠ none := by
  unfold opStore at h
  split at h
  · split at h
    · rename_i ob n h1 h2
      split at h
      · obtain rfl := Option.some.inj h; intro x hx; simp at hx; subst hx; exact .inr (by simp [h1])
      · simp at h
    · simp at h
  · simp at h
theorem opBuild_up {t : TypeId} {ps : Array (Nat × Operand)} (h : opBuild P tm t ps = some r) : r.up = [] := by
  unfold opBuild at h
  repeat' split at h
  all_goals first | (simp at h; done) | (obtain rfl := Option.some.inj h; rfl) | (obtain ⟨d, hd, rfl⟩ := Option.map_eq_some_iff.1 h; rfl)
theorem opBuildSlice_up {t : TypeId} {n : Nat} {ps : Array (Nat × Operand)} (h : opBuildSlice P id tm t n ps = some r) : ∀ x ∈ r.up.map (·.1), x = id ∨ g x ≠ none := by
  unfold opBuildSlice at h
  repeat' split at h
  all_goals first | (simp at h; done) | (obtain ⟨d, hd, rfl⟩ := Option.map_eq_some_iff.1 h; intro x hx; simp at hx; exact .inl hx)
theorem opFieldAddr_up {s : TypeId} {f : Nat} {u : U} (h : opFieldAddr P s f u = some r) : r.up = [] := by
  unfold opFieldAddr at h
  repeat' split at h
  all_goals first | (simp at h; done) | (obtain rfl := Option.some.inj h; rfl) | (obtain ⟨d, hd, rfl⟩ := Option.map_eq_some_iff.1 h; rfl)
theorem opField_up {s : TypeId} {f : Nat} {u : U} (h : opField P s f u = some r) : r.up = [] := by
  unfold opField at h
  repeat' split at h
  all_goals first | (simp at h; done) | (obtain rfl := Option.some.inj h; rfl) | (obtain ⟨d, hd, rfl⟩ := Option.map_eq_some_iff.1 h; rfl)
theorem opIndexAddr_up {s : TypeId} {u v : U} (h : opIndexAddr P g s u v = some r) : r.up = [] := by
  unfold opIndexAddr at h
  repeat' split at h
  all_goals first | (simp at h; done) | (obtain rfl := Option.some.inj h; rfl) | (obtain ⟨d, hd, rfl⟩ := Option.map_eq_some_iff.1 h; rfl)
theorem opIndex_up {s : TypeId} {u v : U} (h : opIndex P s u v = some r) : r.up = [] := by
  unfold opIndex at h
  repeat' split at h
  all_goals first | (simp at h; done) | (obtain rfl := Option.some.inj h; rfl) | (obtain ⟨d, hd, rfl⟩ := Option.map_eq_some_iff.1 h; rfl)
theorem opSlice_up {t : TypeId} {x : U} {lo hi mx : Option Operand} (h : opSlice P g tm t x lo hi mx = some r) : r.up = [] := by
  unfold opSlice at h
  repeat' split at h
  all_goals first | (simp at h; done) | (obtain rfl := Option.some.inj h; rfl) | (obtain ⟨d, hd, rfl⟩ := Option.map_eq_some_iff.1 h; rfl)
theorem opAppend_up {t tx : TypeId} {s x : U} (h : opAppend P g id t tx s x = some r) : ∀ x ∈ r.up.map (·.1), x = id ∨ g x ≠ none := by
  unfold opAppend at h
  split at h
  · split at h
    · split at h
      · split at h
        · split at h
          · split at h
            · split at h
              · obtain rfl := Option.some.inj h; intro x hx; simp at hx
              · split at h
                · obtain rfl := Option.some.inj h; intro x hx; simp at hx; exact .inl hx
                · simp at h
            · split at h
              · rename_i ob hob
                split at h
                · split at h
                  · obtain rfl := Option.some.inj h; intro x hx; simp at hx
                  · split at h
                    · obtain rfl := Option.some.inj h; intro x hx; simp at hx; subst hx; exact .inr (by simp [hob])
                    · simp at h
                · simp at h
              · simp at h
            · simp at h
          · simp at h
        · simp at h
      · simp at h
    · simp at h
  · simp at h
theorem opLen_up {t : TypeId} {u : U} (h : opLen P t u = some r) : r.up = [] := by
  unfold opLen at h
  repeat' split at h
  all_goals first | (simp at h; done) | (obtain rfl := Option.some.inj h; rfl) | (obtain ⟨d, hd, rfl⟩ := Option.map_eq_some_iff.1 h; rfl)
theorem opMakeSlice_up {t : TypeId} {u v : U} (h : opMakeSlice P id t u v = some r) : ∀ x ∈ r.up.map (·.1), x = id ∨ g x ≠ none := by
  unfold opMakeSlice at h
  repeat' split at h
  all_goals first | (simp at h; done) | (obtain rfl := Option.some.inj h; intro x hx; simp at hx; exact .inl hx)
theorem opEql_up {t : TypeId} {b : Bool} {u v : U} (h : opEql P t b u v = some r) : r.up = [] := by
  unfold opEql at h
  repeat' split at h
  all_goals first | (simp at h; done) | (obtain rfl := Option.some.inj h; rfl)
theorem opConvert_up {s d : TypeId} {u : U} (h : opConvert P g s d u = some r) : ∀ x ∈ r.up.map (·.1), x = id ∨ g x ≠ none := by
  unfold opConvert at h
  repeat' split at h
  all_goals first | (simp at h; done) | (obtain rfl := Option.some.inj h; intro x hx; simp at hx; done) | (obtain ⟨d, hd, rfl⟩ := Option.map_eq_some_iff.1 h; intro x hx; simp at hx; done) | (rename_i h1 _; obtain rfl := Option.some.inj h; intro x hx; simp at hx; subst hx; exact .inr (by simp [h1]))
theorem opClear_up {t : TypeId} {d : U} (h : opClear P g t d = some r) : ∀ x ∈ r.up.map (·.1), x = id ∨ g x ≠ none := by
  unfold opClear at h
  split at h
  · split at h
    · rename_i ob sz z h1 h2 h3
      split at h
      · obtain rfl := Option.some.inj h; intro x hx; simp at hx; subst hx; exact .inr (by simp [h1])
      · simp at h
    · simp at h
  · simp at h
theorem opCopy_up {t tx : TypeId} {d s : U} (h : opCopy P g t tx d s = some r) : ∀ x ∈ r.up.map (·.1), x = id ∨ g x ≠ none := by
  unfold opCopy at h
  split at h
  · split at h
    · split at h
      · split at h
        · obtain rfl := Option.some.inj h; intro x hx; simp at hx
        · split at h
          · split at h
            · rename_i ob xs c rd hob hsrc
              split at h
              · obtain rfl := Option.some.inj h; intro x hx; simp at hx; subst hx; exact .inr (by simp [hob])
              · simp at h
            · simp at h
          · simp at h
      · simp at h
    · simp at h
  · simp at h
theorem opLookup_up {t : TypeId} {ok : Bool} {x y : U} (h : opLookup P g t ok x y = some r) : r.up = [] := by
  unfold opLookup at h
  repeat' split at h
  all_goals first | (simp at h; done) | (obtain ⟨d, hd, rfl⟩ := Option.map_eq_some_iff.1 h; rfl)
theorem opLenG_up {t : TypeId} {u : U} (h : opLenG P g t u = some r) : r.up = [] := by
  unfold opLenG at h
  split at h
  · repeat' split at h
    all_goals first | (simp at h; done) | (obtain rfl := Option.some.inj h; rfl)
  · exact opLen_up h
theorem opMakeMap_up {t : TypeId} (h : opMakeMap id t = some r) : ∀ x ∈ r.up.map (·.1), x = id ∨ g x ≠ none := by
  unfold opMakeMap at h
  obtain rfl := Option.some.inj h
  intro x hx
  simp at hx
  exact .inl hx
theorem opMapUpdate_up {t : TypeId} {m k x : U} (h : opMapUpdate P g t m k x = some r) : ∀ x ∈ r.up.map (·.1), x = id ∨ g x ≠ none := by
  unfold opMapUpdate at h
  split at h
  · split at h
    · rename_i ob hob
      split at h
      · split at h
        · split at h
          · split at h
            · obtain rfl := Option.some.inj h; intro x hx; simp at hx; subst hx; exact .inr (by simp [hob])
            · simp at h
          · simp at h
        · obtain rfl := Option.some.inj h; intro x hx; simp at hx; subst hx; exact .inr (by simp [hob])
        · simp at h
      · simp at h
    · simp at h
  · simp at h
theorem opStep_up {o : Oper} (h : opStep P g id tm o = some r) : ∀ x ∈ r.up.map (·.1), x = id ∨ g x ≠ none := by
  have nil : ∀ {r : Res}, r.up = [] → ∀ x ∈ r.up.map (·.1), x = id ∨ g x ≠ none := fun e x hx => by rw [e] at hx; simp at hx
  have hb : ∀ {f : U → Option Res} {x : Option U} {Q : Prop}, x.bind f = some r → (∀ u, f u = some r → Q) → Q := by
    intro f x Q h hf
    cases x with
    | none => simp at h
    | some u => exact hf u h
  unfold opStep at h
  split at h
  all_goals try exact nil (opPure_up h)
  all_goals try (obtain ⟨d, hd, rfl⟩ := Option.map_eq_some_iff.1 h; exact nil rfl)
  all_goals try exact nil (opBuild_up h)
  all_goals try exact opBuildSlice_up h
  all_goals try exact hb h fun u hu => opAlloc_up hu
  all_goals try exact hb h fun u hu => nil (opLoad_up hu)
  all_goals try exact hb h fun u hu => hb hu fun v hv => opStore_up hv
  all_goals try exact hb h fun u hu => nil (opFieldAddr_up hu)
  all_goals try exact hb h fun u hu => nil (opField_up hu)
  all_goals try exact hb h fun u hu => hb hu fun v hv => nil (opIndexAddr_up hv)
  all_goals try exact hb h fun u hu => hb hu fun v hv => opMakeSlice_up hv
  all_goals try exact opMakeMap_up h
  all_goals try exact hb h fun u hu => hb hu fun v hv => hb hv fun z hz => opMapUpdate_up hz
  · split at h
    all_goals first | (simp at h; done) | (obtain ⟨d, hd, rfl⟩ := Option.map_eq_some_iff.1 h; exact nil rfl)
  · obtain ⟨z, hz, h⟩ := Option.bind_eq_some_iff.1 h
    exact opAlloc_up h
  · split at h
    all_goals first | (simp at h; done) | (obtain rfl := Option.some.inj h; exact nil rfl)
  · split at h
    · rename_i r' hr; obtain rfl := Option.some.inj h; exact nil (opPure_up hr)
    · exact hb h fun u hu => hb hu fun v hv => nil (opIndex_up hv)
  · split at h
    · rename_i r' hr; obtain rfl := Option.some.inj h; exact nil (opPure_up hr)
    · exact hb h fun u hu => nil (opSlice_up hu)
  · split at h
    all_goals first | (simp at h; done) | (obtain ⟨d, hd, rfl⟩ := Option.map_eq_some_iff.1 h; exact nil rfl)
  · split at h
    all_goals first | (simp at h; done) | (obtain ⟨d, hd, rfl⟩ := Option.map_eq_some_iff.1 h; exact nil rfl)
  · split at h
    · rename_i r' hr; obtain rfl := Option.some.inj h; exact nil (opPure_up hr)
    · exact hb h fun u hu => hb hu fun v hv => nil (opLookup_up hv)
  · split at h
    · rename_i r' hr; obtain rfl := Option.some.inj h; exact nil (opPure_up hr)
    · exact hb h fun u hu => hb hu fun v hv => nil (opEql_up hv)
  · split at h
    · rename_i r' hr; obtain rfl := Option.some.inj h; exact nil (opPure_up hr)
    · exact hb h fun u hu => hb hu fun v hv => nil (opEql_up hv)
  · split at h
    · rename_i r' hr; obtain rfl := Option.some.inj h; exact nil (opPure_up hr)
    · exact hb h fun u hu => opConvert_up hu
  · split at h
    · exact hb h fun u hu => hb hu fun v hv => opAppend_up hv
    · split at h
      · rename_i r' hr; obtain rfl := Option.some.inj h; exact nil (opPure_up hr)
      · exact hb h fun u hu => nil (opLenG_up hu)
    · exact hb h fun u hu => opClear_up hu
    · exact hb h fun u hu => hb hu fun v hv => opCopy_up hv
    · exact nil (opPure_up h)
theorem bring_up {st : Store} {ow : Bool} {u : U} {q : U × List (Nat × Obj)} (h : bring st ow id u = some q) : ∀ x ∈ q.2.map (·.1), x = id := by
  simp only [bring, forceDN_eq, forceD_eq] at h
  split at h
  · repeat' split at h
    all_goals first | (simp at h; done) | (obtain rfl := Option.some.inj h; intro x hx; simp at hx; exact hx)
  · split at h
    · obtain rfl := Option.some.inj h
      intro x hx; simp at hx
    · simp at h
theorem bringAll_up {st : Store} {ow : Bool} {l : List U} {q : List U × List (Nat × Obj)} (h : bringAll st ow id l = some q) : ∀ x ∈ q.2.map (·.1), x = id := by
  cases l with
  | nil => simp [bringAll] at h; subst h; intro x hx; simp at hx
  | cons u l =>
    simp only [bringAll, forceDN_eq] at h
    split at h
    · rename_i v a l' h1 h2
      obtain rfl := Option.some.inj h
      intro x hx
      simp only [List.map_map] at hx
      exact bring_up h1 x (by simpa [Function.comp_def] using hx)
    · simp at h
end
theorem getO_mem' {s : Store} {o : Nat} (h : getO s o ≠ none) : ∃ p ∈ s, p.1 = o := by
  induction s with
  | nil => simp [getO] at h
  | cons a r ih =>
    obtain ⟨o', e⟩ := a
    simp only [getO] at h
    split at h
    · rename_i e; exact ⟨_, List.mem_cons_self, e⟩
    · obtain ⟨p, hp, e⟩ := ih h; exact ⟨p, List.mem_cons_of_mem _ hp, e⟩
theorem gr_of_B {st : Store} {nx : Nat} {st' : Store} {nx' : Nat} (h : grB st nx st' nx' = true) : Gr st nx st' nx' := by
  unfold grB at h
  simp only [Bool.and_eq_true, List.all_eq_true, Bool.or_eq_true, Nat.ble_eq] at h
  obtain ⟨⟨h1, h2⟩, h3⟩ := h
  refine ⟨h1, fun x hx => ?_, fun x hx => ?_⟩
  · obtain ⟨p, hp, rfl⟩ := getO_mem' hx
    have := h2 p hp
    intro e
    rw [e] at this
    simp at this
  · obtain ⟨p, hp, rfl⟩ := getO_mem' hx
    rcases h3 p hp with h4 | h4
    · left
      intro e
      rw [e] at h4
      simp at h4
    · exact .inr ⟨h4.1, h4.2⟩
def GrAt (P : Program) (an : An) (k : Nat) : Prop :=
  (∀ f us st nx u st' nx', pcall P an k f us st nx = some (u, st', nx') → Gr st nx st' nx') ∧
  (∀ id f us g nx r, docall P an k id f us g nx = some r → UpOk id nx g r) ∧
  (∀ id o tm g nx r, oper P an k id o tm g nx = some r → UpOk id nx g r) ∧
  (∀ ops base l i s rs s' rs', opers P an k ops base l i s rs = some (s', rs') → base + 8 * (i + l.length) ≤ s.nx → Gr s.st base s'.st s'.nx ∧ s.nx ≤ s'.nx) ∧
  (∀ c s x s', exec P an k c s = some (x, s') → Gr s.st s.nx s'.st s'.nx)
theorem gr_all (P : Program) (an : An) : ∀ k, GrAt P an k := by
  intro k
  induction k with
  | zero =>
    refine ⟨?_, ?_, ?_, ?_, ?_⟩
    · intro f us st nx u st' nx' h; simp [pcall] at h
    · intro id f us g nx r h; simp [docall] at h
    · intro id o tm g nx r h; simp [oper] at h
    · intro ops base l i s rs s' rs' h; simp [opers] at h
    · intro c s x s' h; simp [exec] at h
  | succ k ih =>
    obtain ⟨ih1, ih2, ih3, ih4, ih5⟩ := ih
    refine ⟨?_, ?_, ?_, ?_, ?_⟩
    · intro f us st nx u st' nx' h
      simp only [pcall, forceL_eq] at h
      split at h
      · split at h
        · rename_i hg
          simp only [Option.some.injEq, Prod.mk.injEq] at h
          obtain ⟨rfl, rfl, rfl⟩ := h
          exact gr_of_B hg
        · simp at h
      · split at h
        · simp at h
        split at h
        · simp at h
        · split at h
          · rename_i fn hfn c hc x s hs
            have hg := ih5 _ _ _ _ hs
            split at h
            · split at h
              · simp at h; obtain ⟨_, rfl, rfl⟩ := h; exact hg
              · simp at h; obtain ⟨_, rfl, rfl⟩ := h; exact hg
              · simp at h
            · simp at h
          · simp at h
    · intro id f us g nx r h
      simp only [docall, forceUN_eq, forceDN_eq, forceNs_eq, forceUp_eq, forceL_eq] at h
      split at h
      · split at h
        · simp at h
        · rename_i vs hvs
          split at h
          · split at h
            · rename_i u st' nx' hp
              obtain rfl := Option.some.inj h
              have hg := ih1 _ _ _ _ _ _ _ hp
              refine ⟨hg.le, fun e => by simp at e, fun x hx => ?_⟩
              simp only [List.map_append, List.mem_append] at hx
              rcases hx with hx | hx
              · exact .inr (.inr (snap_ids hx).2)
              · rcases hg.news x (asUp_ids hx) with h1 | h1
                · rw [getO_sub] at h1
                  split at h1
                  · rcases updF_from _ _ _ h1 with h2 | h2
                    · exact .inr (.inr (snap_ids h2).2)
                    · exact .inr (.inr h2)
                  · exact absurd rfl h1
                · exact .inr (.inl ⟨rfl, h1⟩)
            · simp at h
          · simp at h
      · split at h
        · simp at h
        · rename_i ds hds
          split at h
          · obtain rfl := Option.some.inj h
            exact ⟨Nat.le_refl _, fun _ => rfl, fun x hx => .inr (.inr (snap_ids hx).2)⟩
          split at h
          · rename_i u st' nx' hp
            split at h
            · obtain ⟨q, hq, rfl⟩ := Option.map_eq_some_iff.1 h
              refine ⟨Nat.le_refl _, fun _ => rfl, fun x hx => ?_⟩
              simp only [List.map_append, List.mem_append] at hx
              rcases hx with hx | hx
              · exact .inr (.inr (snap_ids hx).2)
              · exact .inl (bringAll_up hq x hx)
            · obtain ⟨q, hq, rfl⟩ := Option.map_eq_some_iff.1 h
              refine ⟨Nat.le_refl _, fun _ => rfl, fun x hx => ?_⟩
              simp only [List.map_append, List.mem_append] at hx
              rcases hx with hx | hx
              · exact .inr (.inr (snap_ids hx).2)
              · exact .inl (bring_up hq x hx)
          · simp at h
    · intro id o tm g nx r h
      simp only [oper] at h
      split at h
      · obtain rfl := Option.some.inj h
        exact ⟨Nat.le_refl _, fun _ => rfl, fun x hx => by simp at hx⟩
      split at h
      · rename_i r' hr
        obtain rfl := Option.some.inj h
        refine ⟨Nat.le_refl _, fun _ => rfl, fun x hx => ?_⟩
        rcases opStep_up hr x hx with h1 | h1
        · exact .inl h1
        · exact .inr (.inr h1)
      · split at h
        · split at h
          · split at h
            · exact ih2 _ _ _ _ _ _ h
            · simp at h
          · simp at h
        · simp at h
    · intro ops base l i s rs s' rs' h hb
      cases l with
      | nil =>
        simp only [opers, Option.some.injEq, Prod.mk.injEq] at h
        obtain ⟨rfl, rfl⟩ := h
        exact ⟨⟨by omega, fun _ h => h, fun _ h => .inl h⟩, Nat.le_refl _⟩
      | cons o rest =>
        simp only [opers, forceN_eq, forceCR_eq, forceT_eq, forceL_eq, putK_eq, storeK_eq] at h
        simp only [List.length_cons] at hb
        split at h
        · split at h
          · rename_i r hr
            have hu := ih3 _ _ _ _ _ _ hr
            obtain ⟨hg, hle⟩ := ih4 _ _ _ _ _ _ _ _ h (by simp only; have := hu.le; omega)
            have hul := hu.le
            simp only at hg hle
            refine ⟨⟨hg.le, fun x hx => ?_, fun x hx => ?_⟩, by omega⟩
            · apply hg.keeps
              rw [getO_setAll]
              exact updF_keeps _ _ _ hx
            · rcases hg.news x hx with h1 | h1
              · rw [getO_setAll] at h1
                rcases updF_from _ _ _ h1 with h2 | h2
                · rcases hu.up x h2 with h3 | ⟨_, h3, h4⟩ | h3
                  · exact .inr ⟨by omega, by omega⟩
                  · exact .inr ⟨by omega, by omega⟩
                  · exact .inl h3
                · exact .inl h2
              · exact .inr h1
          · simp at h
        · have := ih4 _ _ _ _ _ _ _ _ h (by show base + 8 * (i + 1 + rest.length) ≤ s.nx; omega)
          exact this
        · simp at h
    · intro c s x s' h
      cases c <;> simp only [exec, forceN_eq] at h
      case skip => simp at h; obtain ⟨_, rfl⟩ := h; exact .refl _ _
      case seq a b =>
        split at h
        · rename_i s1 h1
          exact (ih5 _ _ _ _ h1).trans (ih5 _ _ _ _ h)
        · exact ih5 _ _ _ _ h
      case cond c a b =>
        split at h
        · split at h
          · exact ih5 _ _ _ _ h
          · exact ih5 _ _ _ _ h
        · simp at h
      case block id b =>
        split at h
        · rename_i j s1 h1
          split at h <;> (simp at h; obtain ⟨_, rfl⟩ := h; exact ih5 _ _ _ _ h1)
        · exact ih5 _ _ _ _ h
      case loop b =>
        split at h
        · rename_i s1 h1
          exact (ih5 _ _ _ _ h1).trans (ih5 _ _ _ _ h)
        · exact ih5 _ _ _ _ h
      case exit id => simp at h; obtain ⟨_, rfl⟩ := h; exact .refl _ _
      case ret => simp at h; obtain ⟨_, rfl⟩ := h; exact .refl _ _
      case region id ops draw =>
        split at h
        · rename_i s1 rs h1
          split at h
          · simp at h
            obtain ⟨_, rfl⟩ := h
            have hg := (ih4 _ _ _ _ _ _ _ _ h1 (by simp)).1
            exact hg
          · simp at h
        · simp at h
      all_goals simp at h
end Go.Proofs.Ytjofhegodknmaaa.V
