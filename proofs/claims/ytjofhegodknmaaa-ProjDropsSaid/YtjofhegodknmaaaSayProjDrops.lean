/- Of a struct just the fields that the other one has stay: the law as a call. Mine. -/
import Derived.Test.YtjofhegodknmaaaSayDropsWhole
import Derived.Deep.Grids
set_option linter.unusedVariables false
set_option linter.unusedSimpArgs false
namespace Go.Proofs.Ytjofhegodknmaaa.Say
open Go Go.RowKit
open V (D)

/-- a row of truths -/
def rowB (a : Option Addr) (zs : List Bool) : Option (List Bool) := if a.isNone then none else some zs
theorem rep_rowB {W : World} {a : Option Addr} {len cap : Nat} {zs : List Bool}
    (h : (a = none ∧ len = 0 ∧ cap = 0 ∧ zs = []) ∨ ∃ x, a = some x ∧ len ≤ cap ∧ cap ≤ maxLen ∧ zs.length = len ∧ ∀ i, i < zs.length → W.cell? (x.add i) = some (.bool (zs.getD i false))) :
    V.Rep (V.memOf W) (bD (rowB a zs)) (.slice a len cap) := by
  rcases h with ⟨rfl, rfl, rfl, rfl⟩ | ⟨x, rfl, h1, h2, h3, h4⟩
  · exact .nil
  · have hd : bD (rowB (some x) zs) = .lst (zs.map .bool) := rfl
    rw [hd]
    have hget : ∀ (i : Nat) y, (zs.map D.bool)[i]? = some y → i < zs.length ∧ y = .bool (zs.getD i false) := by
      intro i y hy
      rw [List.getElem?_map] at hy
      obtain ⟨z, hz, rfl⟩ := Option.map_eq_some_iff.1 hy
      exact ⟨(List.getElem?_eq_some_iff.1 hz).1, by simp [List.getD, hz]⟩
    have key := V.Rep.lst (F := V.memOf W) (zs.map D.bool) x cap 1 (fun i _ => .bool (zs.getD i false)) (by rw [List.length_map, h3]; exact h1)
      (fun y hy => by obtain ⟨i, hi⟩ := List.getElem?_of_mem hy; obtain ⟨_, rfl⟩ := hget i y hi; rfl)
      (fun i y j z hy hz => by obtain ⟨_, rfl⟩ := hget i y hy; simp [V.D.cells] at hz; cases j with | zero => simp at hz; subst hz; rfl | succ j => simp at hz)
      (fun i y j z hy hz => by
        obtain ⟨hi, rfl⟩ := hget i y hy
        simp only [V.D.cells] at hz
        cases j with
        | zero => simp only [Nat.mul_one, Nat.add_zero]; exact h4 i hi
        | succ j => simp at hz)
      (fun i y j z hy hz => by
        obtain ⟨hi, rfl⟩ := hget i y hy
        simp only [V.D.cells] at hz
        cases j with
        | zero => simp at hz; subst hz; exact .bool _
        | succ j => simp at hz)
    rw [List.length_map, h3] at key
    exact key
theorem ProjDrops (W : World) (a0 : Option Addr) (len0 cap0 : Nat) (z0 : List Bool) (a1 : Option Addr) (len1 cap1 : Nat) (z1 : List Bool) (a2 : Int)
    (w0 : (a0 = none ∧ len0 = 0 ∧ cap0 = 0 ∧ z0 = []) ∨ ∃ x, a0 = some x ∧ len0 ≤ cap0 ∧ cap0 ≤ maxLen ∧ z0.length = len0 ∧ ∀ i, i < z0.length → W.cell? (x.add i) = some (.bool (z0.getD i false)))
    (w1 : (a1 = none ∧ len1 = 0 ∧ cap1 = 0 ∧ z1 = []) ∨ ∃ x, a1 = some x ∧ len1 ≤ cap1 ∧ cap1 ≤ maxLen ∧ z1.length = len1 ∧ ∀ i, i < z1.length → W.cell? (x.add i) = some (.bool (z1.getD i false)))
    (w2 : (Lit.int .i8 a2).wf = true) : Calls Try.prog 3 #[.slice a0 len0 cap0, .slice a1 len1 cap1, .int .i8 a2] W (fun e W' => e = .returned (.bool true) ∧ Below W.heap.size W W') := by
  have b2 := V.wf_int w2
  simp only [IntKind.min, IntKind.max, IntKind.signed, IntKind.bits, if_true] at b2
  have hr : Try.f3.results.toList = [.tmp 6] := by kernel_rfl
  obtain ⟨s', r, ht⟩ := whole (rowB a0 z0) (rowB a1 z1) (n := a2) (by omega)
  refine V.law_of_run (us0 := [.dat (bD (rowB a0 z0)), .dat (bD (rowB a1 z1)), .dat (.int .i8 a2)]) Try.func3 bodyD r (.inr rfl) ?_ (V.args_cons (rep_rowB w0) (V.args_cons (rep_rowB w1) (V.args_cons (.int _ _) V.args_nil)))
  rw [hr, List.mapM_cons]
  simp only [V.resU, ht]
  rfl
end Go.Proofs.Ytjofhegodknmaaa.Say
