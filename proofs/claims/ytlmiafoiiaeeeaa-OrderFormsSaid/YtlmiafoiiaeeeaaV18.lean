/- V, 18: from the evaluator to a law's row. -/
import Derived.Test.YtlmiafoiiaeeeaaV17
import Derived.Below
set_option linter.unusedSimpArgs false
set_option linter.unusedVariables false
namespace Go.Proofs.Ytlmiafoiiaeeeaa.V
open Go Go.RowKit

/-- Does a call yield true? -/
def yes : Option (U × Store × Nat) → Bool
  | some (.dat (.bool b), _, _) => b
  | _ => false

theorem Evo.below {w w' : World} {F F' : Mem} {L' : Lay} (h : Evo w F none0 w' F' L') : Below w.heap.size w w' :=
  ⟨h.os, h.tape, h.output, h.size, fun k hk => h.frame k hk (fun o i hi => by simp [none0] at hi)⟩

/-- the memory as it is, frozen -/
def memOf (W : World) : Mem := fun a => W.cell? a
theorem memOf_none {W : World} {b off : Nat} (h : W.heap.size ≤ b) : memOf W ⟨b, off, none⟩ = none := by
  unfold memOf World.cell?
  have : W.heap[b]? = none := Array.getElem?_eq_none h
  simp [this]
theorem SR.whole (W : World) : SR W (memOf W) none0 W.heap.size (getO []) :=
  ⟨fun _ _ h => h, fun _ _ => rfl, fun o ob h => by simp [getO] at h, fun o o' i i' h => by simp [none0] at h⟩

theorem law_calls {P : Program} {an : An} (hN : Named P) (hm : P.follows .mixedOrders = true) {k f : Nat} {us : List U} {vs : List Value} {W : World} (h : yes (pcall P an k f us [] 0) = true) (hA : Args (memOf W) none0 us vs) :
    Calls P f vs.toArray W fun e W' => e = .returned (.bool true) ∧ Below W.heap.size W W' := by
  cases hp : pcall P an k f us [] 0 with
  | none => rw [hp] at h; simp [yes] at h
  | some q =>
    obtain ⟨u, st, nx⟩ := q
    rw [hp] at h
    have hu : u = .dat (.bool true) := by
      unfold yes at h
      split at h
      · rename_i b _ _ heq
        subst h
        simp only [Option.some.injEq, Prod.mk.injEq] at heq
        exact heq.1
      · simp at h
    subst hu
    refine Calls.mono (pcall_ok hN hm k f us [] 0 _ st nx W (memOf W) none0 W.heap.size vs hp (SR.whole W) hA (fun _ _ => rfl) (Nat.le_refl _)) fun e W' he => ?_
    obtain ⟨v, F', L', rfl, hE, hS, hr⟩ := he
    cases hr with
    | dat _ _ hr => cases hr; exact ⟨rfl, hE.below⟩

theorem args_nil {F : Mem} {L : Lay} : Args F L [] [] := ⟨rfl, fun i u v h => by simp at h⟩
theorem args_cons {F : Mem} {L : Lay} {d : D} {v : Value} {us : List U} {vs : List Value} (h : Rep F d v) (h' : Args F L us vs) : Args F L (.dat d :: us) (v :: vs) := by
  refine ⟨by simp [h'.1], fun i u x hu hx => ?_⟩
  cases i with
  | zero => simp at hu hx; subst hu; subst hx; exact .dat _ _ h
  | succ i => simp at hu hx; exact h'.2 i u x hu hx

/-- a row of numbers -/
def rowD (k : IntKind) (a : Option Addr) (len : Nat) (zs : List Int) : D := if a.isNone then .nil else .lst ((zs.take len).map (.int k))
theorem rep_row {W : World} {k : IntKind} {a : Option Addr} {len cap : Nat} {zs : List Int}
    (h : (a = none ∧ len = 0 ∧ cap = 0 ∧ zs = []) ∨ ∃ x, a = some x ∧ len ≤ cap ∧ cap ≤ maxLen ∧ zs.length = cap ∧ (∀ i, i < zs.length → W.cell? (x.add i) = some (.int k (zs.getD i 0))) ∧ ∀ n ∈ zs, (Lit.int k n).wf = true) :
    Rep (memOf W) (rowD k a len zs) (.slice a len cap) := by
  rcases h with ⟨rfl, rfl, rfl, rfl⟩ | ⟨x, rfl, h1, h2, h3, h4, _⟩
  · exact .nil
  · simp only [rowD, Option.isNone_some, Bool.false_eq_true, if_false]
    have hlen : ((zs.take len).map (D.int k)).length = len := by simp; omega
    have hget : ∀ (i : Nat) y, ((zs.take len).map (D.int k))[i]? = some y → i < zs.length ∧ y = .int k (zs.getD i 0) := by
      intro i y hy
      rw [List.getElem?_map] at hy
      obtain ⟨z, hz, rfl⟩ := Option.map_eq_some_iff.1 hy
      rw [List.getElem?_take] at hz
      split at hz
      · have hi := (List.getElem?_eq_some_iff.1 hz).1
        refine ⟨hi, ?_⟩
        simp [List.getD, hz]
      · simp at hz
    have key := Rep.lst (F := memOf W) ((zs.take len).map (D.int k)) x cap 1 (fun i _ => .int k (zs.getD i 0)) (by rw [hlen]; exact h1)
      (fun y hy => by obtain ⟨i, hi⟩ := List.getElem?_of_mem hy; obtain ⟨_, rfl⟩ := hget i y hi; rfl)
      (fun i y j z hy hz => by obtain ⟨_, rfl⟩ := hget i y hy; simp [D.cells] at hz; cases j with | zero => simp at hz; subst hz; rfl | succ j => simp at hz)
      (fun i y j z hy hz => by
        obtain ⟨hi, rfl⟩ := hget i y hy
        simp only [D.cells] at hz
        cases j with
        | zero => simp only [Nat.mul_one, Nat.add_zero]; exact h4 i hi
        | succ j => simp at hz)
      (fun i y j z hy hz => by
        obtain ⟨hi, rfl⟩ := hget i y hy
        simp only [D.cells] at hz
        cases j with
        | zero => simp at hz; subst hz; exact .int _ _
        | succ j => simp at hz)
    rw [hlen] at key
    exact key

end Go.Proofs.Ytlmiafoiiaeeeaa.V
