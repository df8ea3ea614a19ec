/- V, 24: calls, whatever they are handed, out of runs of bodies. -/
import Derived.Test.YtfkpjehjkhofhaaV23
set_option linter.unusedSimpArgs false
set_option linter.unusedVariables false
namespace Go.Proofs.Ytfkpjehjkhofhaa.V
open Go Go.RowKit

def resL : List U → U
  | [u] => u
  | l => .tup l
theorem resL_tup {l : List U} (h : l.length ≠ 1) : resL l = .tup l := by
  unfold resL
  split
  · simp at h
  · rfl
section
variable [Sig] {P : Program}
/-- A call, whatever it is handed, out of its body's run. -/
theorem CallHolds.of_run {f : Nat} {fn : Func} {c : Code} (hfn : P.funcs[f]? = some fn) (hc : fn.body = some c) {us : List U} {st : Store} {nx : Nat} {s' : St} {x : X}
    (h : Run P c ⟨us ++ List.replicate (fn.ntmps - us.length) .undef, st, nx⟩ x s') (hx : x = .normal ∨ x = .ret) {rs : List U} (hres : fn.results.toList.mapM (resU P (getO s'.st) s'.tm) = some rs) :
    CallHolds P f us st nx (resL rs) s'.st := by
  refine ⟨⟨fn, c, hfn, hc⟩, fun w F L b0 vs hS hA hf hb => calls_of_wp hfn hc ?_⟩
  have hT : TR F L (us ++ List.replicate (fn.ntmps - us.length) U.undef) (vs.toArray ++ Array.replicate (fn.ntmps - vs.toArray.size) Go.undef) := by
    have hl := hA.1
    refine ⟨by simp [hl], fun t u' hu => ?_⟩
    by_cases ht : t < us.length
    · rw [List.getElem?_append_left ht] at hu
      have ht' : t < vs.length := by omega
      exact ⟨vs[t], by simp [Array.getElem?_append, ht'], hA.2 t u' _ hu (List.getElem?_eq_getElem ht')⟩
    · rw [List.getElem?_append_right (by omega)] at hu
      rw [List.getElem?_replicate] at hu
      split at hu
      · rename_i hlt
        obtain rfl := Option.some.inj hu
        have : ¬ t < vs.length := by omega
        have hlt' : t - vs.length < fn.ntmps - vs.length := by omega
        exact ⟨Go.undef, by simp [Array.getElem?_append, this, Array.getElem?_replicate, hlt'], .undef⟩
      · simp at hu
  refine Code.wp_mono (fun e a' w' hp => ?_) (h.wp w F L b0 _ hS hT rfl hf hb)
  obtain ⟨rfl, hd, F', L', hE, hS', hT'⟩ := hp
  obtain ⟨vs', hargs, hrun⟩ := results_ok hS' hT' hres
  have fin : ∃ v, (results fn a'.tmps).run P w' = .ok v w' ∧ CallPost w F L b0 (getO s'.st) (resL rs) (.returned v) w' := by
    refine ⟨_, hrun, _, F', L', rfl, hE, hS', ?_⟩
    by_cases h1 : rs.length = 1
    · obtain ⟨u', rfl⟩ := List.length_eq_one_iff.1 h1
      have hl := hargs.1
      simp at hl
      obtain ⟨v, rfl⟩ := List.length_eq_one_iff.1 hl
      simp only [List.size_toArray, List.length_cons, List.length_nil, Nat.zero_add, dite_true]
      exact hargs.2 0 u' v rfl rfl
    · have hl := hargs.1
      have h2 : ¬ vs'.toArray.size = 1 := by
        simp only [List.size_toArray]
        omega
      rw [dif_neg h2, resL_tup h1]
      exact .tup _ _ hl hargs.2
  rcases hx with rfl | rfl
  · exact ⟨hd, fin⟩
  · exact ⟨hd, fin⟩
end

/-- What is known of a call, with names for parts of it. -/
theorem CallHolds.outs {σ : Nat → D} (hσ : Plain σ) {P : Program} {f : Nat} {us : List U} {st : Store} {nx : Nat} {u : U} {st' : Store}
    (h : @CallHolds sig0 P f (inUs σ us) (inSt σ st) nx (inU σ u) (inSt σ st')) : @CallHolds (sigOf σ) P f us st nx u st' := by
  letI : Sig := sig0
  refine @CallHolds.mk (sigOf σ) P f _ _ _ _ _ h.body (fun w F L b0 vs hS hA hf hb => ?_)
  have hA' : @Args sig0 F L (inUs σ us) vs := by
    refine ⟨by rw [hA.1, inUs_eq, List.length_map], fun i u v hu hv => ?_⟩
    obtain ⟨x, hx, rfl⟩ := get_inUs hu
    exact repU_in hσ (hA.2 i x v hx hv)
  have hf' : ∀ x, nx ≤ x → getO (inSt σ st) x = none := fun x hx => by rw [getO_in, hf x hx]; rfl
  refine Calls.mono (h.calls w F L b0 vs (sr_in hσ hS) hA' hf' hb) fun e w' he => ?_
  obtain ⟨v, F', L', rfl, hE, hS', hr⟩ := he
  exact ⟨v, F', L', rfl, hE, sr_out hσ hS', repU_out hσ hr _ rfl⟩
/-- What stands for the names put in place. -/
theorem CallHolds.ins {σ : Nat → D} (hσ : Plain σ) {P : Program} {f : Nat} {us : List U} {st : Store} {nx : Nat} {u : U} {st' : Store}
    (h : @CallHolds (sigOf σ) P f us st nx u st') : @CallHolds sig0 P f (inUs σ us) (inSt σ st) nx (inU σ u) (inSt σ st') := by
  letI : Sig := sigOf σ
  refine @CallHolds.mk sig0 P f _ _ _ _ _ h.body (fun w F L b0 vs hS hA hf hb => ?_)
  have hA' : @Args (sigOf σ) F L us vs := by
    refine ⟨by rw [@And.left _ _ hA, inUs_eq, List.length_map], fun i u v hu hv => ?_⟩
    exact repU_out hσ (@And.right _ _ hA i (inU σ u) v (at_inUs hu) hv) _ rfl
  have hf' : ∀ x, nx ≤ x → getO st x = none := fun x hx => by
    have := hf x hx
    rw [getO_in] at this
    simpa using this
  refine Calls.mono (h.calls w F L b0 vs (sr_out hσ hS) hA' hf' hb) fun e w' he => ?_
  obtain ⟨v, F', L', rfl, hE, hS', hr⟩ := he
  exact ⟨v, F', L', rfl, hE, sr_in hσ hS', repU_in hσ hr⟩

end Go.Proofs.Ytfkpjehjkhofhaa.V
