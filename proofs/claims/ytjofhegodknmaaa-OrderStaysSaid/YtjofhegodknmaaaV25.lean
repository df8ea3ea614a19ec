/- V, 25: regions operation by operation, by hand: where rows have lengths that are not told. -/
import Derived.Test.YtjofhegodknmaaaV24
import Derived.Test.YtjofhegodknmaaaVE
set_option linter.unusedSimpArgs false
set_option linter.unusedVariables false
namespace Go.Proofs.Ytjofhegodknmaaa.V
open Go Go.RowKit
inductive Steps (P : Program) (an : An) (ops : Array Oper) (base : Nat) : Nat → St → St → Prop
  | done {i : Nat} {s s' : St} (hi : ops.size = i) (e : s = s') : Steps P an ops base i s s'
  | step {i : Nat} {s s' : St} {r : CallRes} (hi : Nat.ble (i + 1) ops.size = true) (hw : wantedU ops s.tm (opAt ops i) = some true) (h : ∀ k, oper P an (k + 3) (base + 8 * i) (opAt ops i) s.tm (getO s.st) s.nx = some r)
      (t : Steps P an ops base (i + 1) ⟨put s.tm (opAt ops i).dst r.res.u, setAll s.st r.res.up, r.nx⟩ s') : Steps P an ops base i s s'
  | skip {i : Nat} {s s' : St} (hi : Nat.ble (i + 1) ops.size = true) (hw : wantedU ops s.tm (opAt ops i) = some false)
      (t : Steps P an ops base (i + 1) ⟨put s.tm (opAt ops i).dst .undef, s.st, s.nx⟩ s') : Steps P an ops base i s s'
section
variable {P : Program} {an : An} {ops : Array Oper} {base : Nat}
theorem drop_at {i : Nat} (hi : Nat.ble (i + 1) ops.size = true) : ops.toList.drop i = opAt ops i :: ops.toList.drop (i + 1) := by
  have h : i < ops.size := by have := Nat.le_of_ble_eq_true hi; omega
  have h' : i < ops.toList.length := by simpa using h
  rw [List.drop_eq_getElem_cons h']
  congr 1
  simp [opAt, h]
theorem Steps.opers {i : Nat} {s s' : St} (h : Steps P an ops base i s s') : ∀ (m : Nat) (rs : List (Option CallRes)), ops.size ≤ i + m → ∃ rs', opers P an (m + 4) ops base (ops.toList.drop i) i s rs = some (s', rs') := by
  induction h with
  | done hi e =>
    intro m rs hm
    subst e
    rw [List.drop_eq_nil_of_le (by simp [hi])]
    exact ⟨rs, by simp [V.opers]⟩
  | @step i s s' r hi hw h t ih =>
    intro m rs hm
    have hlt := Nat.le_of_ble_eq_true hi
    cases m with
    | zero => omega
    | succ m =>
      obtain ⟨rs', e⟩ := ih m (rs ++ [some r]) (by omega)
      refine ⟨rs', ?_⟩
      rw [drop_at hi]
      show V.opers P an (m + 4 + 1) _ _ _ _ _ _ = _
      simp only [V.opers, hw, forceN_eq]
      have hm4 : m + 4 = (m + 1) + 3 := by omega
      rw [hm4, h (m + 1), ← hm4]
      simp only [forceCR_eq, forceT_eq, putK_eq, storeK_eq]
      exact e
  | @skip i s s' hi hw t ih =>
    intro m rs hm
    have hlt := Nat.le_of_ble_eq_true hi
    cases m with
    | zero => omega
    | succ m =>
      obtain ⟨rs', e⟩ := ih m (rs ++ [none]) (by omega)
      refine ⟨rs', ?_⟩
      rw [drop_at hi]
      show V.opers P an (m + 4 + 1) _ _ _ _ _ _ = _
      simp only [V.opers, hw, putK_eq]
      exact e
theorem Steps.op {i : Nat} {s s' : St} {r : Res} (hi : Nat.ble (i + 1) ops.size = true) (hw : wantedU ops s.tm (opAt ops i) = some true) (ho : orcU an s.tm (opAt ops i) = none)
    (h : opStep P (getO s.st) (base + 8 * i) s.tm (opAt ops i) = some r) (t : Steps P an ops base (i + 1) ⟨put s.tm (opAt ops i).dst r.u, setAll s.st r.up, s.nx⟩ s') : Steps P an ops base i s s' :=
  .step hi hw (fun k => oper_step ho h) t
variable [Sig]
end
section
variable {P : Program} {g : Nat → Option Obj} {id : Nat} {tm : List U} {o : Oper}
def infoB (P : Program) (e : TypeId) : Option (Nat × Nat) := (P.info? e).map fun i => (i.size, i.bytes)
structure ByteT (P : Program) (t e : TypeId) : Prop where
  und : P.underlying t = some (.slice e)
  info : infoB P e = some (1, 1)
  agg : aggT P e = some false
  zero : zeroT P e = some [.int .u8 0]
theorem ByteT.size {t e : TypeId} (h : ByteT P t e) : sizeT P e = some 1 := by
  have := h.info
  unfold infoB at this
  unfold sizeT
  cases hi : P.info? e with
  | none => rw [hi] at this; simp at this
  | some i => rw [hi] at this; simp at this; simp [this.1]
end
theorem refsL_dats : ∀ l : List D, refsL (l.map .dat) = []
  | [] => rfl
  | d :: r => by simp only [List.map_cons, refsL, refs, refsL_dats r, List.append_nil]
theorem refsL_app : ∀ a b : List U, refsL (a ++ b) = refsL a ++ refsL b
  | [], b => rfl
  | u :: r, b => by simp only [List.cons_append, refsL, refsL_app r b, List.append_assoc]
section
variable [Sig] {P : Program} {an : An}
end
end Go.Proofs.Ytjofhegodknmaaa.V
