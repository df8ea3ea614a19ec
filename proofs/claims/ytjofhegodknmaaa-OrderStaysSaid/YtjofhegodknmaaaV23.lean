/- V, 23: more of what is known of operations: lengths, elements, texts. -/
import Derived.Test.YtjofhegodknmaaaV22
import Derived.Lib.Bytealg
set_option linter.unusedSimpArgs false
set_option linter.unusedVariables false
namespace Go.Proofs.Ytjofhegodknmaaa.V
open Go Go.RowKit
inductive Gact where
  | len (t : TypeId) (a d : D)
  | ix (t : TypeId) (a i : D) (cs : List D)
  | cs (op : BinOp) (a b : D) (r : Bool)
  | ext (g : Nat) (a b d : D)
  | neg (a d : D)
def strI (op : BinOp) (s t : ByteArray) : Option Bool :=
  match op with
  | .lss => some (Op.bytesLess s.toList t.toList)
  | .gtr => some (!(Op.bytesLess s.toList t.toList || s.toList == t.toList))
  | _ => none
section
variable [Sig] {P : Program}
def Gact.ok (P : Program) : Gact → Prop
  | .len t a d => ∃ n : Nat, plain d = .int .i64 n ∧ (((∃ e, P.underlying t = some (.slice e)) ∧ ((plain a = .nil ∧ n = 0) ∨ ∃ l, plain a = .lst l ∧ n = l.length)) ∨ (P.underlying t = some .string ∧ ∃ s, plain a = .str s ∧ n = s.size))
  | .ix t a i es => ∃ k n l x e, plain a = .lst l ∧ plain i = .int k n ∧ 0 ≤ n ∧ l[n.toNat]? = some x ∧ P.underlying t = some (.slice e) ∧ sizeT P e = some x.cells.length ∧ 0 < x.cells.length ∧ es.length = x.cells.length ∧
      ∀ (j : Nat) c y, es[j]? = some c → x.cells[j]? = some y → c = y ∨ ∃ m, c = .sym m ∧ Sig.σ m = y
  | .cs op a b r => ∃ s t, plain a = .str s ∧ plain b = .str t ∧ strI op s t = some r
  | .ext g a b d => ∃ fn s t, P.funcs[g]? = some fn ∧ fn.body = none ∧ (fn.name == "runtime.NumGoroutine") = false ∧ Extern.findNext fn = none ∧ Extern.find fn = some Extern.BytealgCompare.compare ∧
      plain a = .str s ∧ plain b = .str t ∧ plain d = .int .i64 (Lib.compareBytes s.data.toList t.data.toList)
  | .neg a d => ∃ k n, plain a = .int k n ∧ plain d = .int k (k.wrap (-n))
theorem orc_len {c : Call} {t : TypeId} {x : Operand} {a d : D} (hcal : c.callee = .builtin .len) (hargs : c.args.toList = [x]) (htys : c.argTypes.toList = [t]) (hf : (Gact.len t a d).ok P) : OrcHolds P (.call c) [a] d := by
  intro F _ ρ o ho hR
  obtain ⟨n, hd, h⟩ := hf
  have hops : (Op.call c).operands.toList = [x] := by simp [Op.operands, Call.operands, hcal, hargs]
  have h1 := plain_rep (hR 0 x a (by rw [hops]; rfl) rfl)
  have hca : c.args = #[x] := by apply Array.ext'; simpa using hargs
  have hct : c.argTypes = #[t] := by apply Array.ext'; simpa using htys
  refine ⟨.int .i64 n, ?_, rep_plain_int hd⟩
  simp only [execOp, ho, resolve, hcal, hca, hct]
  rcases h with ⟨⟨e, he⟩, h⟩ | ⟨hs, s, ha, rfl⟩
  · rcases h with ⟨ha, rfl⟩ | ⟨l, ha, rfl⟩
    · rw [ha] at h1
      generalize hv : ρ x = v at h1
      cases h1
      simp [hv, pureSem_bind, invoke, builtin, Builtin.len_, pureSem_underlying P t he, goInt]
    · rw [ha] at h1
      generalize hv : ρ x = v at h1
      cases h1
      simp [hv, pureSem_bind, invoke, builtin, Builtin.len_, pureSem_underlying P t he, goInt]
  · rw [ha] at h1
    generalize hv : ρ x = v at h1
    cases h1
    simp [hv, pureSem_bind, invoke, builtin, Builtin.len_, pureSem_underlying P t hs, goInt]
end
end Go.Proofs.Ytjofhegodknmaaa.V
