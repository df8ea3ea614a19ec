/- V, 24: calls, whatever they are handed, out of runs of bodies. -/
import Derived.Test.YtjofhegodknmaaaV23
import Derived.Test.YtjofhegodknmaaaVE
set_option linter.unusedSimpArgs false
set_option linter.unusedVariables false
namespace Go.Proofs.Ytjofhegodknmaaa.V
open Go Go.RowKit

/-- What is known of a call, with names for parts of it. -/
theorem CallHolds.outs {σ : Nat → D} (hσ : Plain σ) {P : Program} {f : Nat} {us : List U} {st : Store} {nx : Nat} {u : U} {st' : Store}
    (h : @CallHolds sig0 P f (inUs σ us) (inSt σ st) nx (inU σ u) (inSt σ st')) : @CallHolds (sigOf σ) P f us st nx u st' := by
  letI : Sig := sig0
  refine @CallHolds.mk (sigOf σ) P f _ _ _ _ _ h.body (fun w F L b0 vs hS hA hf hb => ?_)
  have hA' : @Args sig0 F L (inUs σ us) vs := by
    refine ⟨by rw [hA.1, inUs_eq, List.length_map], fun i u v hu hv => ?_⟩
    obtain ⟨x, hx, rfl⟩ := get_inUs hu
    exact repU_in hσ (hA.2 i x v hx hv)
  have hf' : ∀ x, nx ≤ x → getO (inSt σ st) x = none := fun x hx => by rw [getO_in, hf x hx]; rfl
  refine Calls.mono (h.calls w F L b0 vs (sr_in hσ hS) hA' hf' hb) fun e w' he => ?_
  obtain ⟨v, F', L', rfl, hE, hS', hr⟩ := he
  exact ⟨v, F', L', rfl, hE, sr_out hσ hS', repU_out hσ hr _ rfl⟩
/-- What stands for the names put in place. -/
theorem CallHolds.ins {σ : Nat → D} (hσ : Plain σ) {P : Program} {f : Nat} {us : List U} {st : Store} {nx : Nat} {u : U} {st' : Store}
    (h : @CallHolds (sigOf σ) P f us st nx u st') : @CallHolds sig0 P f (inUs σ us) (inSt σ st) nx (inU σ u) (inSt σ st') := by
  letI : Sig := sigOf σ
  refine @CallHolds.mk sig0 P f _ _ _ _ _ h.body (fun w F L b0 vs hS hA hf hb => ?_)
  have hA' : @Args (sigOf σ) F L us vs := by
    refine ⟨by rw [@And.left _ _ hA, inUs_eq, List.length_map], fun i u v hu hv => ?_⟩
    exact repU_out hσ (@And.right _ _ hA i (inU σ u) v (at_inUs hu) hv) _ rfl
  have hf' : ∀ x, nx ≤ x → getO st x = none := fun x hx => by
    have := hf x hx
    rw [getO_in] at this
    simpa using this
  refine Calls.mono (h.calls w F L b0 vs (sr_out hσ hS) hA' hf' hb) fun e w' he => ?_
  obtain ⟨v, F', L', rfl, hE, hS', hr⟩ := he
  exact ⟨v, F', L', rfl, hE, sr_in hσ hS', repU_in hσ hr⟩

end Go.Proofs.Ytjofhegodknmaaa.V
