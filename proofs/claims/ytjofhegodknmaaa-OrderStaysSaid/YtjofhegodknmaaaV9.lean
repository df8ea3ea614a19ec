/- V, 9: what an operation yields hangs on what it looks at alone. -/
import Derived.Test.YtjofhegodknmaaaV8
set_option linter.unusedSimpArgs false
set_option linter.unusedVariables false
namespace Go.Proofs.Ytjofhegodknmaaa.V
open Go
theorem mapM_local {α β : Type} {f f' : α → Option β} : ∀ {l : List α} {r : List β}, l.mapM f = some r → (∀ x ∈ l, ∀ y ∈ r, f x = some y → f' x = some y) → l.mapM f' = some r := by
  intro l
  induction l with
  | nil => intro r h _; simpa using h
  | cons a l ih =>
    intro r h hf
    rw [List.mapM_cons] at h ⊢
    cases ha : f a with
    | none => simp [ha] at h
    | some b =>
      cases hl : l.mapM f with
      | none => simp [ha, hl] at h
      | some r' =>
        simp [ha, hl] at h
        subst h
        rw [hf a (by simp) b (by simp) ha, ih hl (fun x hx y hy h => hf x (by simp [hx]) y (by simp [hy]) h)]
        simp
theorem toD_local {g g' : Nat → Option Obj} : ∀ (k : Nat) {u : U} {r : D × List Nat}, toD g k u = some r → (∀ x ∈ r.2, g' x = g x) → toD g' k u = some r := by
  intro k
  induction k with
  | zero => intro u r h; simp [toD] at h
  | succ k ih =>
    intro u r h hg
    have hm : ∀ {l : List U} {cs : List (D × List Nat)}, l.mapM (toD g k) = some cs → (∀ x ∈ cs.flatMap (·.2), g' x = g x) → l.mapM (toD g' k) = some cs := by
      intro l cs h hx
      exact mapM_local h fun x _ y hy e => ih e fun z hz => hx z (List.mem_flatMap.2 ⟨y, hy, hz⟩)
    cases u with
    | dat d => exact h
    | own o gn off n =>
      simp only [toD] at h ⊢
      split at h
      · rename_i ob hob
        split at h
        · rename_i hc
          split at h
          · rename_i cs hcs
            obtain rfl := Option.some.inj h
            simp only [hg o (by simp), hob, if_pos hc, hm hcs (fun x hx => hg x (List.mem_cons_of_mem _ hx))]
          · simp at h
        · simp at h
      · simp at h
    | ptr o gn p =>
      simp only [toD] at h ⊢
      split at h
      · rename_i ob hob
        split at h
        · rename_i hc
          split at h
          · rename_i cs hcs
            obtain rfl := Option.some.inj h
            simp only [hg o (by simp), hob, if_pos hc, hm hcs (fun x hx => hg x (List.mem_cons_of_mem _ hx))]
          · simp at h
        · simp at h
      · simp at h
    | agg cs =>
      simp only [toD] at h ⊢
      split at h
      · rename_i ds hds
        obtain rfl := Option.some.inj h
        simp only [hm hds hg]
      · simp at h
    | fn f caps =>
      simp only [toD] at h ⊢
      split at h
      · rename_i ds hds
        obtain rfl := Option.some.inj h
        simp only [hm hds hg]
      · simp at h
    | tup l => simp [toD] at h
    | undef => simp [toD] at h
    | junk => simp [toD] at h
    | map o gn => simp [toD] at h
section
variable {P : Program} {g g' : Nat → Option Obj} {id : Nat} {tm : List U} {r : Res}
theorem opLoad_local {t : TypeId} {u : U} (h : opLoad P g t u = some r) (hg : ∀ x ∈ r.rd, g' x = g x) : opLoad P g' t u = some r := by
  cases u with
  | ptr o gn p =>
    simp only [opLoad] at h ⊢
    split at h
    · rename_i ob n a h1 h2 h3
      split at h
      · rename_i hc
        split at h
        · rename_i ha
          obtain rfl := Option.some.inj h
          simp only [hg o (by simp), h1, h2, h3, if_pos hc, if_pos ha]
        · rename_i ha
          obtain ⟨u, hu, rfl⟩ := Option.map_eq_some_iff.1 h
          simp only [hg o (by simp), h1, h2, h3, if_pos hc, if_neg ha, hu, Option.map_some]
      · simp at h
    · simp at h
  | dat d => cases d <;> exact h
  | _ => exact h
theorem opStore_local {t : TypeId} {a x : U} (h : opStore P g t a x = some r) (hg : ∀ y ∈ r.rd, g' y = g y) : opStore P g' t a x = some r := by
  cases a with
  | ptr o gn p =>
    simp only [opStore] at h ⊢
    split at h
    · rename_i ob n h1 h2
      split at h
      · rename_i hc
        obtain rfl := Option.some.inj h
        simp only [hg o (by simp), h1, h2, if_pos hc]
      · simp at h
    · simp at h
  | _ => exact h
theorem opIndexAddr_local {t : TypeId} {x ix : U} (h : opIndexAddr P g t x ix = some r) (hg : ∀ y ∈ r.rd, g' y = g y) : opIndexAddr P g' t x ix = some r := by
  unfold opIndexAddr at h ⊢
  split at h
  · rename_i hP
    split at h
    · rename_i ob sz h1 h2
      split at h
      · rename_i hc
        obtain rfl := Option.some.inj h
        have hg0 := hg _ (List.mem_singleton.2 rfl)
        simp only [hP, hg0, h1, h2]
        rw [if_pos hc]
      · simp at h
    · simp at h
  · exact h
  · exact h
  · exact h
  · simp at h
theorem opSlice_local {t : TypeId} {x : U} {lo hi mx : Option Operand} (h : opSlice P g tm t x lo hi mx = some r) (hg : ∀ y ∈ r.rd, g' y = g y) : opSlice P g' tm t x lo hi mx = some r := by
  unfold opSlice at h ⊢
  split at h
  · rename_i l hh e hl hhi hP
    split at h
    · exact h
    · exact h
    · split at h
      · rename_i a b ob sz h1 h2 h3 h4
        split at h
        · rename_i hc
          obtain rfl := Option.some.inj h
          simp only [h1, h2, h3, h4, hg _ (List.mem_singleton.2 rfl), if_pos hc]
        · simp at h
      · simp at h
    · simp at h
  · simp at h
theorem srcCells_local {esz : Nat} {x : U} {s : List U × Nat × List Nat} (h : srcCells g esz x = some s) (hg : ∀ y ∈ s.2.2, g' y = g y) : srcCells g' esz x = some s := by
  cases x with
  | own o gn off n =>
    simp only [srcCells] at h ⊢
    split at h
    · rename_i ob h1
      split at h
      · rename_i hc
        obtain rfl := Option.some.inj h
        simp only [hg _ (List.mem_singleton.2 rfl), h1, if_pos hc]
      · simp at h
    · simp at h
  | dat d => cases d <;> exact h
  | _ => exact h
theorem opAppend_local {t tx : TypeId} {s x : U} (h : opAppend P g id t tx s x = some r) (hg : ∀ y ∈ r.rd, g' y = g y) : opAppend P g' id t tx s x = some r := by
  unfold opAppend at h ⊢
  split at h
  · rename_i hrow
    rw [if_pos hrow]
    split at h
    · rename_i e hP
      split at h
      · rename_i i a z h1 h2 h3
        split at h
        · rename_i hc
          split at h
          · rename_i xs m rd hsrc
            have hsub : (∀ y ∈ rd, g' y = g y) → srcCells g' i.size x = some (xs, m, rd) := fun hh => srcCells_local hsrc hh
            split at h
            · split at h
              · rename_i hm
                obtain rfl := Option.some.inj h
                simp only [hP, h1, h2, h3, if_pos hc, hsub hg, if_pos hm]
              · rename_i hm
                split at h
                · rename_i hb
                  obtain rfl := Option.some.inj h
                  simp only [hP, h1, h2, h3, if_pos hc, hsub hg, if_neg hm, if_pos hb]
                · simp at h
            · split at h
              · rename_i ob hob
                split at h
                · rename_i hcc
                  split at h
                  · rename_i hm
                    obtain rfl := Option.some.inj h
                    simp only [hP, h1, h2, h3, if_pos hc, hsub (fun y hy => hg y (List.mem_cons_of_mem _ hy)), hg _ List.mem_cons_self, hob, if_pos hcc, if_pos hm]
                  · rename_i hm
                    split at h
                    · rename_i hb
                      obtain rfl := Option.some.inj h
                      simp only [hP, h1, h2, h3, if_pos hc, hsub (fun y hy => hg y (List.mem_cons_of_mem _ hy)), hg _ List.mem_cons_self, hob, if_pos hcc, if_neg hm, if_pos hb]
                    · simp at h
                · simp at h
              · simp at h
            · simp at h
          · simp at h
        · simp at h
      · simp at h
    · simp at h
  · simp at h
theorem opConvert_local {s d : TypeId} {u : U} (h : opConvert P g s d u = some r) (hg : ∀ y ∈ r.rd, g' y = g y) : opConvert P g' s d u = some r := by
  unfold opConvert at h ⊢
  split at h
  · exact h
  · rename_i e h1 h2
    split at h
    case h_2 h3 => exact h
    · rename_i h3
      split at h
      · exact h
      · exact h
      · split at h
        · rename_i ob hob
          split at h
          · rename_i hc
            obtain ⟨b, hb, rfl⟩ := Option.map_eq_some_iff.1 h
            simp only [hg _ (List.mem_singleton.2 rfl), hob, if_pos hc, hb, Option.map_some]
          · simp at h
        · simp at h
      · simp at h
    · simp at h
  · split at h
    · split at h
      · rename_i ob hob
        split at h
        · rename_i hc
          obtain rfl := Option.some.inj h
          simp only [hg _ (List.mem_singleton.2 rfl), hob, if_pos hc]
        · simp at h
      · simp at h
    · simp at h
  · simp at h
theorem opClear_local {t : TypeId} {d : U} (h : opClear P g t d = some r) (hg : ∀ y ∈ r.rd, g' y = g y) : opClear P g' t d = some r := by
  unfold opClear at h ⊢
  split at h
  · rename_i e o gn off n h1
    split at h
    · rename_i ob sz z h2 h3 h4
      split at h
      · rename_i hc
        obtain rfl := Option.some.inj h
        simp only [h1, hg _ (List.mem_singleton.2 rfl), h2, h3, h4, if_pos hc]
      · simp at h
    · simp at h
  · simp at h
theorem opCopy_local {t tx : TypeId} {d s : U} (h : opCopy P g t tx d s = some r) (hg : ∀ y ∈ r.rd, g' y = g y) : opCopy P g' t tx d s = some r := by
  unfold opCopy at h ⊢
  split at h
  · rename_i hc0
    rw [if_pos hc0]
    split at h
    · split at h
      · split at h
        · rename_i h0
          rw [if_pos h0]
          exact h
        · rename_i h0
          rename_i e n m hP hn hm _ sz hsz
          split at h
          · rename_i o gn off _
            split at h
            · rename_i ob xs c rd hob hsrc
              split at h
              · rename_i hc
                obtain rfl := Option.some.inj h
                have h1 := hg o List.mem_cons_self
                have h2 := srcCells_local hsrc (fun y hy => hg y (List.mem_cons_of_mem _ hy))
                rw [if_neg h0]
                simp only [h1, hob, h2]
                rw [if_pos hc]
              · simp at h
            · simp at h
          · simp at h
      · simp at h
    · simp at h
  · simp at h
theorem opLookup_local {t : TypeId} {ok : Bool} {x y : U} (h : opLookup P g t ok x y = some r) (hg : ∀ y ∈ r.rd, g' y = g y) : opLookup P g' t ok x y = some r := by
  unfold opLookup at h ⊢
  split at h
  · rename_i kt et o gn k h1 h2
    split at h
    · rename_i ob hob
      split at h
      · rename_i hc
        split at h
        · rename_i i hf
          obtain ⟨u, hu, rfl⟩ := Option.map_eq_some_iff.1 h
          simp only [h1, h2, hg _ (List.mem_singleton.2 rfl), hob, if_pos hc, hf, hu, Option.map_some]
        · rename_i hf
          obtain ⟨z, hz, rfl⟩ := Option.map_eq_some_iff.1 h
          simp only [h1, h2, hg _ (List.mem_singleton.2 rfl), hob, if_pos hc, hf, hz, Option.map_some]
        · simp at h
      · simp at h
    · simp at h
  · simp at h
theorem opMapUpdate_local {t : TypeId} {m k x : U} (h : opMapUpdate P g t m k x = some r) (hg : ∀ y ∈ r.rd, g' y = g y) : opMapUpdate P g' t m k x = some r := by
  unfold opMapUpdate at h ⊢
  split at h
  · rename_i kt et o gn kv h1 h2
    split at h
    · rename_i ob hob
      split at h
      · rename_i hc
        split at h
        · rename_i i hf
          split at h
          · rename_i old hold
            split at h
            · rename_i hsb
              obtain rfl := Option.some.inj h
              simp only [h1, h2, hg _ (List.mem_singleton.2 rfl), hob, if_pos hc, hf, hold, if_pos hsb]
            · simp at h
          · simp at h
        · rename_i hf
          obtain rfl := Option.some.inj h
          simp only [h1, h2, hg _ (List.mem_singleton.2 rfl), hob, if_pos hc, hf]
        · simp at h
      · simp at h
    · simp at h
  · simp at h
theorem opLenG_local {t : TypeId} {u : U} (h : opLenG P g t u = some r) (hg : ∀ y ∈ r.rd, g' y = g y) : opLenG P g' t u = some r := by
  unfold opLenG at h ⊢
  split at h
  · split at h
    · rename_i h1 hob
      split at h
      · rename_i hc
        obtain rfl := Option.some.inj h
        simp only [h1, hg _ (List.mem_singleton.2 rfl), hob, if_pos hc]
      · simp at h
    · simp at h
  · exact h
theorem opStep_view {o : Oper} (h : opStep P g id tm o = some r) (hg : ∀ y ∈ r.rd, g' y = g y) : opStep P g' id tm o = some r := by
  obtain ⟨dst, op, type, pos, after, guard⟩ := o
  have hb : ∀ {f f' : U → Option Res} {x : Option U}, x.bind f = some r → (∀ u, f u = some r → f' u = some r) → x.bind f' = some r := by
    intro f f' x h hf
    cases x with
    | none => simp at h
    | some u => exact hf u h
  unfold opStep at h ⊢
  cases op <;> try exact h
  case binOp b t x y z => cases b <;> exact h
  case makeFunc f a b => cases f <;> exact h
  case makeMap t r => cases r <;> exact h
  case lookup t x i ok =>
    simp only at h ⊢
    split at h
    · exact h
    · exact hb h fun u hu => hb hu fun v hv => opLookup_local hv hg
  case mapUpdate t m k x => exact hb h fun u hu => hb hu fun v hv => hb hv fun z hz => opMapUpdate_local hz hg
  case insert t m k x => exact hb h fun u hu => hb hu fun v hv => hb hv fun z hz => opMapUpdate_local hz hg
  case load t a => exact hb h fun u hu => opLoad_local hu hg
  case store t a x => exact hb h fun u hu => hb hu fun v hv => opStore_local hv hg
  case indexAddr t x i => exact hb h fun u hu => hb hu fun v hv => opIndexAddr_local hv hg
  case slice t x lo hi mx =>
    simp only at h ⊢
    split at h
    · exact h
    · exact hb h fun u hu => opSlice_local hu hg
  case convert s d x =>
    simp only at h ⊢
    split at h
    · exact h
    · exact hb h fun u hu => opConvert_local hu hg
  case call c =>
    simp only at h ⊢
    split at h
    · rename_i s x t tx h1 h2 h3
      exact hb h fun u hu => hb hu fun v hv => opAppend_local hv hg
    · rename_i x t h1 h2 h3
      split at h
      · exact h
      · exact hb h fun u hu => opLenG_local hu hg
    · rename_i d t h1 h2 h3
      exact hb h fun u hu => opClear_local hu hg
    · exact hb h fun u hu => hb hu fun v hv => opCopy_local hv hg
    · exact h
end
theorem evalU_agree {tm tm' : List U} {x : Operand} (h : ∀ t, x = .tmp t → tm'[t]? = tm[t]?) : evalU tm' x = evalU tm x := by
  cases x with
  | tmp t => exact h t rfl
  | _ => rfl
theorem mapM_congr' {α β : Type} {f f' : α → Option β} : ∀ {l : List α}, (∀ x ∈ l, f x = f' x) → l.mapM f = l.mapM f' := by
  intro l
  induction l with
  | nil => intro _; rfl
  | cons a l ih =>
    intro h
    rw [List.mapM_cons, List.mapM_cons, h a (by simp), ih fun x hx => h x (by simp [hx])]
theorem opPure_tmps {P : Program} {tm tm' : List U} {o : Oper} (h : ∀ x ∈ o.op.operands, evalU tm' x = evalU tm x) : opPure P tm' o = opPure P tm o := by
  unfold opPure
  have h1 : o.op.operands.toList.all (fun x => ((evalU tm' x).bind valU).isSome) = o.op.operands.toList.all (fun x => ((evalU tm x).bind valU).isSome) := by
    rw [Bool.eq_iff_iff, List.all_eq_true, List.all_eq_true]
    constructor
    · intro hh x hx; rw [← h x (by simpa using hx)]; exact hh x hx
    · intro hh x hx; rw [h x (by simpa using hx)]; exact hh x hx
  rw [h1]
  split
  · by_cases hs : ∃ cs b, o.op = .select cs b
    · obtain ⟨cs, b, hs⟩ := hs
      simp only [hs]
    · have hs' : ∀ cs b, o.op ≠ .select cs b := fun cs b e => hs ⟨cs, b, e⟩
      rw [execOp_congr (ρ := fun x => ((evalU tm' x).bind valU).getD Go.undef) (ρ' := fun x => ((evalU tm x).bind valU).getD Go.undef) o hs' fun x hx => by simp only [h x hx]]
  · rfl
theorem opStep_tmps {P : Program} {g : Nat → Option Obj} {id : Nat} {tm tm' : List U} {o : Oper} (h : ∀ x ∈ o.op.operands, evalU tm' x = evalU tm x) :
    opStep P g id tm' o = opStep P g id tm o := by
  have hp := opPure_tmps (P := P) h
  obtain ⟨dst, op, type, pos, after, guard⟩ := o
  have hparts : ∀ ps : Array (Nat × Operand), (∀ x ∈ (ps.toList.map (·.2)).toArray, evalU tm' x = evalU tm x) → partsU tm' ps = partsU tm ps := by
    intro ps hh
    refine mapM_congr' fun p hpm => ?_
    obtain ⟨i, x⟩ := p
    simp only [hh x (by simp; exact ⟨i, by simpa using hpm⟩)]
  have hopt : ∀ x : Option Operand, (∀ y ∈ x.toArray, evalU tm' y = evalU tm y) → optU tm' x = optU tm x := by
    intro x hh
    cases x with
    | none => rfl
    | some y => simp only [optU, hh y (by simp)]
  unfold opStep
  cases op <;> simp only [Op.operands] at h <;> simp only
  case call c =>
    have ha : ∀ x ∈ c.args.toList, evalU tm' x = evalU tm x := fun x hx => h x (by simp [Call.operands]; right; simpa using hx)
    rw [hp]
    split <;> try rfl
    · rename_i s x t tx h1 h2 h3
      rw [ha s (by simp [h2]), ha x (by simp [h2])]
    · rename_i x t h1 h2 h3
      rw [ha x (by simp [h2])]
    · rename_i d t h1 h2 h3
      rw [ha d (by simp [h2])]
    · rename_i d s t tx h1 h2 h3
      rw [ha d (by simp [h2]), ha s (by simp [h2])]
  case binOp b t x y z =>
    have h1 := h x (by simp)
    have h2 := h y (by simp)
    cases b <;> simp only [hp, h1, h2]
  case makeMap t r =>
    cases r with
    | none => rfl
    | some y => exact hp
  case build t ps => simp only [opBuild, hparts ps h]
  case buildSlice t n ps => simp only [opBuildSlice, hparts ps h]
  case makeFunc fn first caps =>
    cases fn <;> simp only
    split
    · rw [mapM_congr' fun x hx => h x (by simp; right; simpa using hx)]
    · rfl
    all_goals (try exact hp)
  case slice t x lo hi mx =>
    rw [hp]
    split
    · rfl
    · rw [h x (by simp)]
      congr 1
      funext u
      simp only [opSlice, hopt lo (fun y hy => h y (by simp at hy ⊢; simp [hy])), hopt hi (fun y hy => h y (by simp at hy ⊢; simp [hy]))]
  all_goals first
    | exact hp
    | rfl
    | (simp only [hp]; done)
    | (simp at h; simp only [hp, h]; done)
    | (simp at h; simp only [hp, h.1, h.2]; done)
    | (simp at h; simp only [hp, h.1, h.2.1, h.2.2]; done)
    | skip
end Go.Proofs.Ytjofhegodknmaaa.V
