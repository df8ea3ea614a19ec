/- V, copies of maps: maps.Clone as what is known of a call. -/
import Derived.Test.YtjofhegodknmaaaV20
set_option linter.unusedSimpArgs false
set_option linter.unusedVariables false
namespace Go.Proofs.Ytjofhegodknmaaa.V
open Go Go.RowKit
def cloneOf (fs : List Nat) (f : Nat) (us : List U) (st : Store) (nx : Nat) : Option (U × Store × Nat) :=
  if fs.any (Nat.beq f) then
    match us with
    | [.map o gn] =>
      match getO st o with
      | some ob => if ob.gen = gn ∧ ob.esz = 0 then some (.map nx 0, setO st nx { ob with gen := 0, snap := false }, nx + 1) else none
      | none => none
    | _ => none
  else none
variable [Sig] {P : Program}
structure Clones (P : Program) (f : Nat) : Prop where
  body : ∃ fn c, P.funcs[f]? = some fn ∧ fn.body = some c
  calls : ∀ (b : Nat) (es : Array MapEntry) (clk : Nat) (w : World), w.heap[b]? = some (.map es clk) → Calls P f #[.map (some b)] w fun e w' => e = .returned (.map (some w.heap.size)) ∧ w' = w.alloc (.map es clk)
theorem clone_holds {fs : List Nat} (h : ∀ f ∈ fs, Clones P f) {f : Nat} {us : List U} {st : Store} {nx : Nat} {u : U} {st' : Store} {nx' : Nat} (hh : cloneOf fs f us st nx = some (u, st', nx')) : CallHolds P f us st nx u st' := by
  unfold cloneOf at hh
  split at hh
  · rename_i hf
    obtain ⟨f', hf1, hf2⟩ := List.any_eq_true.1 hf
    obtain rfl := Nat.eq_of_beq_eq_true hf2
    have hC := h _ hf1
    split at hh
    · rename_i o gn
      split at hh
      · rename_i ob hob
        split at hh
        · rename_i hcond
          obtain ⟨hgn, he⟩ := hcond
          simp only [Option.some.injEq, Prod.mk.injEq] at hh
          obtain ⟨rfl, rfl, rfl⟩ := hh
          refine ⟨hC.body, fun w F L b0 vs hS hA hfr hb => ?_⟩
          have hl := hA.1
          simp at hl
          obtain ⟨v, rfl⟩ := List.length_eq_one_iff.1 hl
          have hr := hA.2 0 _ v rfl rfl
          obtain ⟨i, es, clk, hL, r1, r2, r4, rfl, hheap, hKV, hF⟩ := map_now hS hob hgn he hr
          refine Calls.mono (hC.calls i.blk es clk w hheap) fun e w' hp => ?_
          obtain ⟨rfl, rfl⟩ := hp
          have hnone : L nx = none := hS.non nx (hfr nx (Nat.le_refl _))
          have hf : mapArr es = (flat2 es.toList).toArray := rfl
          obtain ⟨hS', hE⟩ := hS.upd (w' := w.alloc (.map es clk)) nx { ob with gen := 0, snap := false } ⟨0, w.heap.size, 0, 0⟩ (mapArr es) (by simp) rfl rfl rfl (fun k hk _ => heap_old w _ hk)
            (.inr ⟨he, by rw [hf]; simpa using hKV.len.2, es, clk, heap_alloc_new w _, rfl⟩) (fun _ off => noF hS (Nat.le_refl _)) (fun h => by simp only at h; omega) rfl he.symm hb (by rw [hf]; simpa using Nat.le_of_eq hKV.len.2)
            (fun off v hv => by rw [noF hS (a := ⟨w.heap.size, off, none⟩) (Nat.le_refl _)] at hv; simp at hv) (fun off _ => noF hS (Nat.le_refl _))
            (.inr ⟨Nat.le_refl _, fun j hj => by rw [hnone] at hj; simp at hj⟩)
            (fun j u hu => by
              obtain ⟨v, hv, hr⟩ := hKV.at j u hu
              exact ⟨fun h => by simp only at h; omega, v, by rw [hf]; simpa using hv, .inl hr⟩)
          have hst : (fun x => if x = nx then some { ob with gen := 0, snap := false } else getO st x) = getO (setO st nx { ob with gen := 0, snap := false }) := by
            funext x
            rw [getO_setO]
          rw [hst] at hS'
          exact ⟨_, F, _, rfl, hE, hS', RepU.map (F := F) (L := LPut L nx ⟨0, w.heap.size, 0, 0⟩) nx ⟨0, w.heap.size, 0, 0⟩ (by simp [LPut])⟩
        · simp at hh
      · simp at hh
    · simp at hh
  · simp at hh
end Go.Proofs.Ytjofhegodknmaaa.V
