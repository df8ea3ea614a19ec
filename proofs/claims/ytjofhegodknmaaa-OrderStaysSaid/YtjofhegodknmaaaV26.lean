/- V, 26: rows of elements of several cells, by hand: where rows have lengths that are not told; what is kept of a run's end, told as a list. -/
import Derived.Test.YtjofhegodknmaaaV25
set_option linter.unusedSimpArgs false
set_option linter.unusedVariables false
namespace Go.Proofs.Ytjofhegodknmaaa.V
open Go Go.RowKit
structure RowT (P : Program) (t e : TypeId) (s b : Nat) (a : Bool) : Prop where
  und : P.underlying t = some (.slice e)
  info : infoB P e = some (s, b)
  agg : aggT P e = some a
  zero : (zeroT P e).map List.length = some s
  pos : 0 < s
  bpos : 0 < b
section
variable {P : Program} {g : Nat → Option Obj} {id : Nat}
theorem RowT.inf {t e : TypeId} {s b : Nat} {a : Bool} (h : RowT P t e s b a) : ∃ i, P.info? e = some i ∧ i.size = s ∧ i.bytes = b := by
  have := h.info
  unfold infoB at this
  obtain ⟨i, h1, h2⟩ := Option.map_eq_some_iff.1 this
  simp only [Prod.mk.injEq] at h2
  exact ⟨i, h1, h2.1, h2.2⟩
theorem RowT.size {t e : TypeId} {s b : Nat} {a : Bool} (h : RowT P t e s b a) : sizeT P e = some s := by
  obtain ⟨i, h1, h2, _⟩ := h.inf
  simp [sizeT, h1, h2]
end
structure Kept (g : Nat → Option Obj) (ids : List Nat) (p : Nat × Obj) : Prop where
  get : g p.1 = some p.2
  refs : (refsL p.2.cells).all (fun x => ids.contains x) = true
def AllKept (g : Nat → Option Obj) (ids : List Nat) (l : Store) : Prop := ∀ p ∈ l, Kept g ids p
theorem AllKept.nil {g : Nat → Option Obj} {ids : List Nat} : AllKept g ids [] := fun _ h => absurd h (by simp)
theorem AllKept.cons {g : Nat → Option Obj} {ids : List Nat} {o : Nat} {ob : Obj} {l : Store} (h1 : g o = some ob) (h2 : (refsL ob.cells).all (fun x => ids.contains x) = true) (h : AllKept g ids l) : AllKept g ids ((o, ob) :: l) := by
  intro p hp
  rcases List.mem_cons.1 hp with rfl | hp
  · exact ⟨h1, h2⟩
  · exact h p hp
section
variable [Sig] {P : Program} {an : An}
end
end Go.Proofs.Ytjofhegodknmaaa.V
