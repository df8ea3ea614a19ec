/- V, quickly: more fuel does no harm. -/
import Derived.Test.YtillejiepbgkbaaGreatVG
set_option linter.unusedSimpArgs false
set_option linter.unusedVariables false
namespace Go.Proofs.YtillejiepbgkbaaGreat.V
open Go Go.RowKit

structure Fuel (P : Program) (an : An) (k : Nat) : Prop where
  pcall : ∀ f us st nx r, V.pcall P an k f us st nx = some r → V.pcall P an (k + 1) f us st nx = some r
  docall : ∀ id f us g nx r, V.docall P an k id f us g nx = some r → V.docall P an (k + 1) id f us g nx = some r
  oper : ∀ id o tm g nx r, V.oper P an k id o tm g nx = some r → V.oper P an (k + 1) id o tm g nx = some r
  opers : ∀ ops base l i s rs r, V.opers P an k ops base l i s rs = some r → V.opers P an (k + 1) ops base l i s rs = some r
  exec : ∀ c s r, V.exec P an k c s = some r → V.exec P an (k + 1) c s = some r
theorem fuel (P : Program) (an : An) : ∀ k, Fuel P an k
  | 0 => ⟨fun f us st nx r h => by simp [V.pcall] at h, fun id f us g nx r h => by simp [V.docall] at h, fun id o tm g nx r h => by simp [V.oper] at h, fun ops base l i s rs r h => by simp [V.opers] at h, fun c s r h => by simp [V.exec] at h⟩
  | k + 1 => by
    have ih := fuel P an k
    refine ⟨fun f us st nx r h => ?_, fun id f us g nx r h => ?_, fun id o tm g nx r h => ?_, fun ops base l i s rs r h => ?_, fun c s r h => ?_⟩
    · rw [V.pcall] at h ⊢
      simp only [forceL_eq] at h ⊢
      split
      · rename_i hq; rw [hq] at h; exact h
      · rename_i hq
        rw [hq] at h
        simp only at h
        split
        · rename_i hf; rw [hf] at h; exact h
        · rename_i fn hf
          rw [hf] at h
          simp only at h
          split
          · rename_i hc; rw [hc] at h; exact h
          · rename_i c hc
            rw [hc] at h
            simp only at h
            cases he : V.exec P an k c ⟨us ++ List.replicate (fn.ntmps - us.length) .undef, st, nx⟩ with
            | none => rw [he] at h; simp at h
            | some q => rw [he] at h; rw [ih.exec _ _ _ he]; exact h
    · rw [V.docall] at h ⊢
      simp only [forceUN_eq, forceDN_eq, forceNs_eq, forceUp_eq, forceL_eq] at h ⊢
      split
      · rename_i hc
        rw [if_pos hc] at h
        split
        · rename_i hv; rw [hv] at h; exact h
        · rename_i vs hv
          rw [hv] at h
          simp only at h
          split
          · rename_i hcl
            rw [if_pos hcl] at h
            cases he : V.pcall P an k f (vs.map (·.1)) (subStore (updF g (snapAll g (vs.flatMap (·.2)))) (reach (updF g (snapAll g (vs.flatMap (·.2)))) 400 (refsL (vs.map (·.1))) [])) nx with
            | none => rw [he] at h; simp at h
            | some q => rw [he] at h; rw [ih.pcall _ _ _ _ _ he]; exact h
          · rename_i hcl; rw [if_neg hcl] at h; exact h
      · rename_i hc
        rw [if_neg hc] at h
        split
        · rename_i hv; rw [hv] at h; exact h
        · rename_i ds hv
          rw [hv] at h
          simp only at h
          split
          · rename_i hs; rw [hs] at h; exact h
          · rename_i hs
            rw [hs] at h
            simp only at h
            cases he : V.pcall P an k f (ds.map fun d => U.dat d.1) [] 0 with
            | none => rw [he] at h; simp at h
            | some q => rw [he] at h; rw [ih.pcall _ _ _ _ _ he]; exact h
    · rw [V.oper] at h ⊢
      split
      · rename_i ho; rw [ho] at h; exact h
      · rename_i ho
        rw [ho] at h
        simp only at h
        split
        · rename_i hs; rw [hs] at h; exact h
        · rename_i hs
          rw [hs] at h
          simp only at h
          split
          · rename_i c hop
            rw [hop] at h
            simp only at h
            split
            · rename_i f hcal
              rw [hcal] at h
              simp only at h
              split
              · rename_i n caps us h1 h2
                rw [h1, h2] at h
                exact ih.docall _ _ _ _ _ _ h
              · rename_i hno
                split at h
                · rename_i n caps us h1 h2; exact absurd h2 (hno _ _ _ h1)
                · exact h
            · rename_i hno
              split at h
              · rename_i f hcal; exact absurd hcal (hno f)
              · exact h
          · rename_i hno
            split at h
            · rename_i c hop; exact absurd hop (hno c)
            · exact h
    · cases l with
      | nil => rw [V.opers] at h ⊢; exact h
      | cons o rest =>
        rw [V.opers] at h ⊢
        simp only [forceN_eq, forceCR_eq, forceT_eq, forceL_eq, putK_eq, storeK_eq] at h ⊢
        split
        · rename_i hw
          rw [hw] at h
          simp only at h
          cases he : V.oper P an k (base + 8 * i) o s.tm (getO s.st) s.nx with
          | none => rw [he] at h; simp at h
          | some q => rw [he] at h; rw [ih.oper _ _ _ _ _ _ he]; exact ih.opers _ _ _ _ _ _ _ h
        · rename_i hw
          rw [hw] at h
          exact ih.opers _ _ _ _ _ _ _ h
        · rename_i hw; rw [hw] at h; exact h
    · cases c <;> simp only [V.exec, forceN_eq] at h ⊢
      case skip => exact h
      case exit id => exact h
      case ret => exact h
      case seq a b =>
        cases he : V.exec P an k a s with
        | none => rw [he] at h; simp at h
        | some q =>
          rw [he] at h
          rw [ih.exec _ _ _ he]
          obtain ⟨x, s1⟩ := q
          cases x with
          | normal => exact ih.exec _ _ _ h
          | exit id => exact h
          | ret => exact h
      case cond c a b =>
        split
        · rename_i t ht
          rw [ht] at h
          simp only at h
          split
          · rename_i h1; rw [if_pos h1] at h; exact ih.exec _ _ _ h
          · rename_i h1; rw [if_neg h1] at h; exact ih.exec _ _ _ h
        · rename_i hno
          split at h
          · rename_i t ht; exact absurd ht (hno t)
          · exact h
      case block id b =>
        cases he : V.exec P an k b s with
        | none => rw [he] at h; simp at h
        | some q => rw [he] at h; rw [ih.exec _ _ _ he]; exact h
      case loop b =>
        cases he : V.exec P an k b s with
        | none => rw [he] at h; simp at h
        | some q =>
          rw [he] at h
          rw [ih.exec _ _ _ he]
          obtain ⟨x, s1⟩ := q
          cases x with
          | normal =>
            have h2 := ih.exec _ _ _ h
            simp only [V.exec] at h2
            exact h2
          | exit id => exact h
          | ret => exact h
      case region id ops draw =>
        cases he : V.opers P an k ops s.nx ops.toList 0 { s with nx := s.nx + 8 * ops.size } [] with
        | none => rw [he] at h; simp at h
        | some q => rw [he] at h; rw [ih.opers _ _ _ _ _ _ _ he]; exact h
      all_goals exact h
theorem fuel_le {P : Program} {an : An} {k m : Nat} (h : k ≤ m) {id : Nat} {o : Oper} {tm : List U} {g : Nat → Option Obj} {nx : Nat} {r : CallRes} (hh : V.oper P an k id o tm g nx = some r) : V.oper P an m id o tm g nx = some r := by
  induction h with
  | refl => exact hh
  | step h ih => exact (fuel P an _).oper _ _ _ _ _ _ ih
theorem fuel_le' {P : Program} {an : An} {k m : Nat} (h : k ≤ m) {id f : Nat} {us : List U} {g : Nat → Option Obj} {nx : Nat} {r : CallRes} (hh : V.docall P an k id f us g nx = some r) : V.docall P an m id f us g nx = some r := by
  induction h with
  | refl => exact hh
  | step h ih => exact (fuel P an _).docall _ _ _ _ _ _ ih

end Go.Proofs.YtillejiepbgkbaaGreat.V
