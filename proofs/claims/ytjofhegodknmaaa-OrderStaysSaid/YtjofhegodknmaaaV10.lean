/- V, 10: what is written and made; calls hang on what they look at alone. -/
import Derived.Test.YtjofhegodknmaaaV9
set_option linter.unusedSimpArgs false
set_option linter.unusedVariables false
namespace Go.Proofs.Ytjofhegodknmaaa.V
open Go
theorem updF_in : ∀ (l : List (Nat × Obj)) (g g' : Nat → Option Obj) (x : Nat), x ∈ l.map (·.1) → updF g l x = updF g' l x := by
  intro l
  induction l with
  | nil => intro g g' x h; simp at h
  | cons p r ih =>
    intro g g' x h
    obtain ⟨o, e⟩ := p
    simp only [updF]
    by_cases hr : x ∈ r.map (·.1)
    · exact ih _ _ x hr
    · have hx : x = o := by simpa [hr] using h
      subst hx
      have key : ∀ (l : List (Nat × Obj)) (f f' : Nat → Option Obj), f x = f' x → updF f l x = updF f' l x := by
        intro l
        induction l with
        | nil => intro f f' h; exact h
        | cons q s ih2 => intro f f' h; obtain ⟨o', e'⟩ := q; simp only [updF]; exact ih2 _ _ (by simp only [h])
      exact key r _ _ (by simp)
theorem updF_at (l : List (Nat × Obj)) : ∀ (g g' : Nat → Option Obj) (x : Nat), g x = g' x → updF g l x = updF g' l x := by
  induction l with
  | nil => intro g g' x h; exact h
  | cons p r ih => intro g g' x h; obtain ⟨o, e⟩ := p; simp only [updF]; exact ih _ _ x (by simp only [h])
theorem updF_out : ∀ (l : List (Nat × Obj)) (g : Nat → Option Obj) (x : Nat), x ∉ l.map (·.1) → updF g l x = g x := by
  intro l
  induction l with
  | nil => intro g x h; rfl
  | cons p r ih =>
    intro g x h
    obtain ⟨o, e⟩ := p
    simp only [List.map_cons, List.mem_cons, not_or] at h
    simp only [updF]
    rw [ih _ x h.2, if_neg h.1]
theorem updF_some : ∀ (l : List (Nat × Obj)) (g : Nat → Option Obj) (x : Nat), x ∈ l.map (·.1) → ∃ ob, updF g l x = some ob := by
  intro l
  induction l with
  | nil => intro g x h; simp at h
  | cons p r ih =>
    intro g x h
    obtain ⟨o, e⟩ := p
    simp only [updF]
    by_cases hr : x ∈ r.map (·.1)
    · exact ih _ x hr
    · have hx : x = o := by simpa [hr] using h
      rw [updF_out r _ x hr]
      exact ⟨e, by simp [hx]⟩
theorem updF_keeps (l : List (Nat × Obj)) (g : Nat → Option Obj) (x : Nat) (h : g x ≠ none) : updF g l x ≠ none := by
  by_cases hx : x ∈ l.map (·.1)
  · obtain ⟨ob, e⟩ := updF_some l g x hx
    rw [e]; simp
  · rw [updF_out l g x hx]; exact h
theorem updF_from (l : List (Nat × Obj)) (g : Nat → Option Obj) (x : Nat) (h : updF g l x ≠ none) : x ∈ l.map (·.1) ∨ g x ≠ none := by
  by_cases hx : x ∈ l.map (·.1)
  · exact .inl hx
  · rw [updF_out l g x hx] at h; exact .inr h
theorem getO_sub (g : Nat → Option Obj) : ∀ (ids : List Nat) (x : Nat), getO (subStore g ids) x = if x ∈ ids then g x else none := by
  intro ids
  induction ids with
  | nil => intro x; simp [subStore, getO]
  | cons o r ih =>
    intro x
    cases e : g o with
    | none =>
      have e0 : subStore g (o :: r) = subStore g r := by simp [subStore, e]
      rw [e0, ih]
      by_cases hx : x ∈ r
      · simp [hx]
      · by_cases hxo : x = o
        · subst hxo; simp [hx, e]
        · simp [hx, hxo]
    | some ob =>
      have e0 : subStore g (o :: r) = (o, ob) :: subStore g r := by simp [subStore, e]
      rw [e0]
      simp only [getO]
      by_cases hxo : x = o
      · subst hxo; simp [e]
      · have hox : ¬ o = x := fun h => hxo h.symm
        simp only [if_neg hox, ih, List.mem_cons, hxo, false_or]
theorem getO_mem {s : Store} {x : Nat} {ob : Obj} (h : getO s x = some ob) : x ∈ s.map (·.1) := by
  induction s with
  | nil => simp [getO] at h
  | cons p r ih =>
    obtain ⟨o, e⟩ := p
    simp only [getO] at h
    split at h
    · rename_i hx; simp [hx]
    · simp [ih h]
theorem sub_ids {g : Nat → Option Obj} {ids : List Nat} {x : Nat} (h : x ∈ (subStore g ids).map (·.1)) : x ∈ ids ∧ g x ≠ none := by
  simp only [subStore, List.mem_map, List.mem_filterMap] at h
  obtain ⟨p, ⟨o, ho, hp⟩, rfl⟩ := h
  obtain ⟨ob, hob, rfl⟩ := Option.map_eq_some_iff.1 hp
  exact ⟨ho, by simp [hob]⟩
theorem asUp_ids {s : Store} {x : Nat} (h : x ∈ (asUp s).map (·.1)) : getO s x ≠ none := (sub_ids h).2
theorem updF_sub (g0 : Nat → Option Obj) : ∀ (ids : List Nat) (g : Nat → Option Obj) (x : Nat), (g x = g0 x ∨ x ∈ ids) → g0 x ≠ none → updF g (subStore g0 ids) x = g0 x := by
  intro ids
  induction ids with
  | nil => intro g x h hn; simpa [subStore, updF] using h
  | cons o r ih =>
    intro g x h hn
    cases e : g0 o with
    | none =>
      have e0 : subStore g0 (o :: r) = subStore g0 r := by simp [subStore, e]
      rw [e0]
      refine ih g x ?_ hn
      rcases h with h | h
      · exact .inl h
      · rcases List.mem_cons.1 h with rfl | h
        · exact absurd e hn
        · exact .inr h
    | some ob =>
      have e0 : subStore g0 (o :: r) = (o, ob) :: subStore g0 r := by simp [subStore, e]
      rw [e0]
      simp only [updF]
      refine ih _ x ?_ hn
      by_cases hxo : x = o
      · subst hxo; exact .inl (by simp [e])
      · rcases h with h | h
        · exact .inl (by simp [hxo, h])
        · exact .inr (by simpa [hxo] using h)
theorem updF_asUp (g : Nat → Option Obj) (s : Store) (x : Nat) : updF g (asUp s) x = (getO s x).or (g x) := by
  cases e : getO s x with
  | none =>
    rw [updF_out _ _ _ (fun h => asUp_ids h e)]
    rfl
  | some ob =>
    have := updF_sub (getO s) (s.map (·.1)) g x (.inr (getO_mem e)) (by simp [e])
    rw [asUp, this, e]
    rfl
theorem snap_ids {g : Nat → Option Obj} {ids : List Nat} {x : Nat} (h : x ∈ (snapAll g ids).map (·.1)) : x ∈ ids ∧ g x ≠ none := by
  simp only [snapAll, List.mem_map, List.mem_filterMap] at h
  obtain ⟨p, ⟨o, ho, hp⟩, rfl⟩ := h
  obtain ⟨ob, hob, rfl⟩ := Option.map_eq_some_iff.1 hp
  exact ⟨ho, by simp [hob]⟩
theorem filterMap_local {α β : Type} {f f' : α → Option β} : ∀ {l : List α}, (∀ x ∈ l, f x = f' x) → l.filterMap f = l.filterMap f' := by
  intro l
  induction l with
  | nil => intro _; rfl
  | cons a l ih =>
    intro h
    rw [List.filterMap_cons, List.filterMap_cons, h a (by simp), ih fun x hx => h x (by simp [hx])]
theorem snapAll_local {g g' : Nat → Option Obj} {l : List Nat} (h : ∀ x ∈ l, g' x = g x) : snapAll g' l = snapAll g l :=
  filterMap_local fun x hx => by rw [h x hx]
theorem subStore_local {g g' : Nat → Option Obj} {l : List Nat} (h : ∀ x ∈ l, g' x = g x) : subStore g' l = subStore g l :=
  filterMap_local fun x hx => by rw [h x hx]
theorem reach_acc {g : Nat → Option Obj} : ∀ (k : Nat) (todo acc : List Nat) (x : Nat), x ∈ acc → x ∈ reach g k todo acc := by
  intro k
  induction k with
  | zero => intro todo acc x h; exact h
  | succ k ih =>
    intro todo acc x h
    cases todo with
    | nil => exact h
    | cons o todo =>
      simp only [reach]
      split
      · exact ih _ _ _ h
      · split
        · exact ih _ _ _ (List.mem_cons_of_mem _ h)
        · exact ih _ _ _ (List.mem_cons_of_mem _ h)
theorem reach_local {g g' : Nat → Option Obj} : ∀ (k : Nat) (todo acc : List Nat), (∀ x ∈ reach g k todo acc, g' x = g x) → reach g' k todo acc = reach g k todo acc := by
  intro k
  induction k with
  | zero => intro todo acc h; rfl
  | succ k ih =>
    intro todo acc h
    cases todo with
    | nil => rfl
    | cons o todo =>
      simp only [reach] at h ⊢
      split
      · rename_i hc
        rw [if_pos hc] at h
        exact ih _ _ h
      · rename_i hc
        rw [if_neg hc] at h
        cases e : g o with
        | none =>
          rw [e] at h
          have : g' o = g o := h o (reach_acc _ _ _ _ (by simp))
          rw [this, e]
          exact ih _ _ h
        | some ob =>
          rw [e] at h
          have : g' o = g o := h o (reach_acc _ _ _ _ (by simp))
          rw [this, e]
          exact ih _ _ h
theorem closed_local {g g' : Nat → Option Obj} {ids : List Nat} (h : ∀ x ∈ ids, g' x = g x) : closed g' ids = closed g ids := by
  unfold closed
  rw [Bool.eq_iff_iff, List.all_eq_true, List.all_eq_true]
  constructor
  · intro hh x hx; have := hh x hx; rw [h x hx] at this; exact this
  · intro hh x hx; have := hh x hx; rw [h x hx]; exact this
theorem argIo_local {g g' : Nat → Option Obj} {io : Bool} {u : U} {r : U × List Nat} (h : argIo g io u = some r) (hg : ∀ x ∈ r.2, g' x = g x) : argIo g' io u = some r := by
  unfold argIo at h ⊢
  split
  · rename_i hc; rw [if_pos hc] at h; exact h
  · rename_i hc
    rw [if_neg hc] at h
    obtain ⟨d, hd, rfl⟩ := Option.map_eq_some_iff.1 h
    rw [toD_local 40 hd hg]
    rfl
variable {P : Program} {an : An}
theorem docall_local {k id f : Nat} {us : List U} {g g' : Nat → Option Obj} {nx : Nat} {r : CallRes} (h : docall P an k id f us g nx = some r) (hg : ∀ x ∈ r.res.rd, g' x = g x) :
    docall P an k id f us g' nx = some r := by
  cases k with
  | zero => simp [docall] at h
  | succ k =>
    simp only [docall, forceUN_eq, forceDN_eq, forceNs_eq, forceUp_eq, forceL_eq] at h ⊢
    split
    · rename_i hc
      rw [if_pos hc] at h
      split at h
      · simp at h
      · rename_i vs hvs
        split at h
        · rename_i hcl
          split at h
          · rename_i u st' nx' hp
            obtain rfl := Option.some.inj h
            simp only at hg
            have hsid : ∀ x ∈ vs.flatMap (·.2), g' x = g x := fun x hx => hg x (List.mem_append_right _ hx)
            have hvs' : us.mapM (argIo g' (an.io f)) = some vs := mapM_local hvs fun x _ y hy e => argIo_local e fun z hz => hsid z (List.mem_flatMap.2 ⟨y, hy, hz⟩)
            rw [hvs']
            simp only
            have hsn := snapAll_local hsid
            rw [hsn]
            have h1 : ∀ x ∈ reach (updF g (snapAll g (vs.flatMap (·.2)))) 400 (refsL (vs.map (·.1))) [],
                updF g' (snapAll g (vs.flatMap (·.2))) x = updF g (snapAll g (vs.flatMap (·.2))) x := fun x hx => updF_at _ _ _ _ (hg x (List.mem_append_left _ hx))
            rw [reach_local _ _ _ h1]
            rw [closed_local h1, if_pos hcl, subStore_local h1, hp]
          · simp at h
        · simp at h
    · rename_i hc
      rw [if_neg hc] at h
      split at h
      · simp at h
      · rename_i ds hds
        have hm : (∀ x ∈ ds.flatMap (·.2), g' x = g x) → us.mapM (toD g' 40) = some ds := fun hh =>
          mapM_local hds fun x _ y hy e => toD_local 40 e fun z hz => hh z (List.mem_flatMap.2 ⟨y, hy, hz⟩)
        split at h
        · rename_i rs hsp
          obtain rfl := Option.some.inj h
          rw [hm hg]
          simp only [hsp, snapAll_local hg]
        split at h
        · rename_i hsp _ u st' nx' hp
          split at h
          · rename_i l
            obtain ⟨q, hq, rfl⟩ := Option.map_eq_some_iff.1 h
            rw [hm hg]
            simp only [hsp, hp, hq, snapAll_local hg, Option.map_some]
          · rename_i u hne
            obtain ⟨q, hq, rfl⟩ := Option.map_eq_some_iff.1 h
            rw [hm hg]
            simp only [hsp, hp]
            simp only [hq, snapAll_local hg, Option.map_some]
        · simp at h
theorem wantedU_agree {ops : Array Oper} {tm tm' : List U} {o : Oper} (h : ∀ t ∈ looks ops o, tm'[t]? = tm[t]?) : wantedU ops tm' o = wantedU ops tm o := by
  unfold wantedU
  cases hg : o.guard with
  | none => rfl
  | some p =>
    obtain ⟨j, b⟩ := p
    simp only
    cases hd : (ops[j]?).bind (·.dst) with
    | none => rfl
    | some t =>
      have : tm'[t]? = tm[t]? := h t (by simp [looks, hg, hd])
      simp only [Option.bind_some, this]
theorem looks_eval {ops : Array Oper} {tm tm' : List U} {o : Oper} (h : ∀ t ∈ looks ops o, tm'[t]? = tm[t]?) : ∀ x ∈ o.op.operands, evalU tm' x = evalU tm x := by
  intro x hx
  refine evalU_agree fun t e => h t ?_
  subst e
  refine List.mem_append_left _ (List.mem_filterMap.2 ⟨.tmp t, by simpa using hx, rfl⟩)
theorem oper_local {k id : Nat} {o : Oper} {ops : Array Oper} {tm tm' : List U} {g g' : Nat → Option Obj} {nx : Nat} {r : CallRes} (h : oper P an k id o tm g nx = some r)
    (ht : ∀ t ∈ looks ops o, tm'[t]? = tm[t]?) (hg : ∀ x ∈ r.res.rd, g' x = g x) :
    oper P an k id o tm' g' nx = some r := by
  have he := looks_eval ht
  cases k with
  | zero => simp [oper] at h
  | succ k =>
    simp only [oper] at h ⊢
    have ho : orcU an tm' o = orcU an tm o := by
      unfold orcU
      split
      · rfl
      · rw [mapM_congr' (f := fun x => (evalU tm' x).bind asDat) (f' := fun x => (evalU tm x).bind asDat) fun x hx => by rw [he x (by simpa using hx)]]
    rw [ho]
    split at h
    · exact h
    split at h
    · rename_i r' hr
      obtain rfl := Option.some.inj h
      rw [opStep_tmps he, opStep_view hr hg]
    · rename_i hr
      split at h
      · rename_i c hop
        split at h
        · rename_i f hcal
          have hr' : opStep P g' id tm' o = none := by
            rw [opStep_tmps he]
            have e1 : opStep P g' id tm o = opPure P tm o := by unfold opStep; rw [hop]; simp only [hcal]
            have e2 : opStep P g id tm o = opPure P tm o := by unfold opStep; rw [hop]; simp only [hcal]
            rw [e1, ← e2, hr]
          rw [hr']
          simp only [hop, hcal]
          have h1 : evalU tm' f = evalU tm f := he f (by rw [hop]; simp [Op.operands, Call.operands, hcal])
          have h2 : c.args.toList.mapM (evalU tm') = c.args.toList.mapM (evalU tm) := mapM_congr' fun x hx => he x (by rw [hop]; simp [Op.operands, Call.operands]; right; simpa using hx)
          rw [h1, h2]
          split at h
          · exact docall_local h hg
          · simp at h
        · simp at h
      · simp at h
end Go.Proofs.Ytjofhegodknmaaa.V
