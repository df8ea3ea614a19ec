/- V, 29: names put in place in rows; what a run ends as, told by a test. -/
import Derived.Test.YtjofhegodknmaaaV28
set_option linter.unusedSimpArgs false
set_option linter.unusedVariables false
namespace Go.Proofs.Ytjofhegodknmaaa.V
open Go Go.RowKit

/-- names put in place in a row -/
theorem inUs_rows (σ : Nat → D) : ∀ css : List (List D), inUs σ (css.flatten.map U.dat) = ((css.map (inDs σ)).flatten).map U.dat
  | [] => by simp [inUs]
  | c :: r => by
    have ih := inUs_rows σ r
    rw [inUs_eq] at ih
    rw [List.flatten_cons, List.map_append, inUs_eq, List.map_append, ih, List.map_cons, List.flatten_cons, List.map_append]
    congr 1
    rw [inDs_eq, List.map_map, List.map_map]
    apply List.map_congr_left
    intro d _
    simp only [Function.comp_apply, inU]
theorem inO_rowOf (σ : Nat → D) (e s : Nat) (a : Bool) (g : Nat) (css : List (List D)) : inO σ (rowOf e s a g css) = rowOf e s a g (css.map (inDs σ)) := by
  simp only [inO, rowOf, inUs_rows]

/-! What a run ends as, told by a test. -/
def beqX : X → X → Bool
  | .normal, .normal => true
  | .ret, .ret => true
  | .exit a, .exit b => Nat.beq a b
  | _, _ => false
def endsAs (r : Option (X × St)) (x : X) (s : St) : Bool :=
  match r with
  | some (y, t) => beqX y x && (beqUs t.tm s.tm && (beqSt t.st s.st && Nat.beq t.nx s.nx))
  | none => false
theorem beqX_eq {x y : X} (h : beqX x y = true) : x = y := by
  cases x <;> cases y <;> first | rfl | (simp [beqX] at h; done) | (simp [beqX] at h; rw [h])
theorem endsAs_eq {r : Option (X × St)} {x : X} {s : St} (h : endsAs r x s = true) : r = some (x, s) := by
  unfold endsAs at h
  split at h
  · rename_i y t
    simp only [Bool.and_eq_true] at h
    obtain ⟨h1, h2, h3, h4⟩ := h
    obtain rfl := beqX_eq h1
    have e1 := beqUs_eq _ _ h2
    have e2 := beqSt_eq _ _ h3
    have e3 := Nat.eq_of_beq_eq_true h4
    cases t
    cases s
    simp only at e1 e2 e3
    rw [e1, e2, e3]
  · simp at h
end Go.Proofs.Ytjofhegodknmaaa.V
