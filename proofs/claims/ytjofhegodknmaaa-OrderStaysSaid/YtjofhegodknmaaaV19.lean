/- V, 19: what is known of operations on values that have names alone. -/
import Derived.Test.YtjofhegodknmaaaV18
set_option linter.unusedSimpArgs false
set_option linter.unusedVariables false
namespace Go.Proofs.Ytjofhegodknmaaa.V
open Go
def cmpI (op : BinOp) (m n : Int) : Option Bool :=
  match op with
  | .eql => some (m == n)
  | .neq => some (m != n)
  | .lss => some (decide (m < n))
  | .leq => some (decide (m ≤ n))
  | .gtr => some (decide (m > n))
  | .geq => some (decide (m ≥ n))
  | _ => none
theorem wr_i64 (n : Int) : IntKind.i64.wrap n = (n + 9223372036854775808) % 18446744073709551616 - 9223372036854775808 := by
  simp only [IntKind.wrap, IntKind.bits, IntKind.signed, Bool.true_and, decide_eq_true_eq, ge_iff_le]
  split <;> omega
theorem wr_u64 (n : Int) : IntKind.u64.wrap n = n % 18446744073709551616 := by simp [IntKind.wrap, IntKind.bits, IntKind.signed]
theorem wf_int {k : IntKind} {n : Int} (h : (Lit.int k n).wf = true) : k.min ≤ n ∧ n ≤ k.max := by simpa [Lit.wf] using h
section
variable [Sig] {P : Program}
def plain (d : D) : D :=
  match d with
  | .sym i => Sig.σ i
  | d => d
theorem plain_rep {F : Mem} {d : D} {v : Value} (h : Rep F d v) : Rep F (plain d) v := by
  cases h with
  | sym i v ho h => exact h
  | int k n => exact .int k n
  | bool b => exact .bool b
  | str s => exact .str s
  | nil => exact .nil
  | lst l a c sz val hc hsz ho h1 h2 => exact .lst l a c sz val hc hsz ho h1 h2
  | agg cs vs hl ho h => exact .agg cs vs hl ho h
  | fp cs a val hs ho h1 h2 => exact .fp cs a val hs ho h1 h2
  | fn f caps vs hl h => exact .fn f caps vs hl h
  | nul0 => exact .nul0
  | nul1 => exact .nul1
  | nul2 => exact .nul2
  | nul3 => exact .nul3
theorem plain_int {F : Mem} {d : D} {v : Value} {k : IntKind} {n : Int} (h : Rep F d v) (hd : plain d = .int k n) : v = .int k n := by
  have := plain_rep h
  rw [hd] at this
  cases this
  rfl
theorem rep_plain_int {F : Mem} {d : D} {k : IntKind} {n : Int} (hd : plain d = .int k n) : Rep F d (.int k n) := by
  cases d with
  | sym i =>
    have h : Sig.σ i = .int k n := hd
    exact .sym i _ (by rw [h]; rfl) (by rw [h]; exact .int k n)
  | _ => simp only [plain] at hd; cases hd <;> exact .int k n
theorem eqGuard_int (op : BinOp) (t : TypeId) (x y : Operand) (k j : IntKind) (m n : Int) : pureSem P (eqGuard op t x y (.int k m) (.int j n)) = some () := by
  have _s : Sig := inferInstance
  unfold eqGuard
  cases op <;> rfl
theorem orc_cmp {op : BinOp} {t w : TypeId} {x y : Operand} {a b : D} {k : IntKind} {m n : Int} {r : Bool} (ha : plain a = .int k m) (hb : plain b = .int k n) (hr : cmpI op m n = some r) :
    OrcHolds P (.binOp op t x y w) [a, b] (.bool r) := by
  intro F _ ρ o ho hR
  have h1 := plain_int (hR 0 x a rfl rfl) ha
  have h2 := plain_int (hR 1 y b rfl rfl) hb
  refine ⟨.bool r, ?_, .bool r⟩
  simp only [execOp, ho, h1, h2]
  simp only [pureSem_bind, eqGuard_int, Option.bind_some]
  have : pureSem P (binOp op t (.int k m) (.int k n)) = some (.bool r) := by
    cases op <;> simp only [cmpI, Option.some.injEq, reduceCtorEq] at hr <;> subst hr <;> simp [binOp, Op.intCmp] <;> rfl
  rw [this]
  rfl
def ariI (op : BinOp) (k : IntKind) (m n : Int) : Option Int :=
  match op with
  | .add => some (k.wrap (m + n))
  | .sub => some (k.wrap (m - n))
  | .mul => some (k.wrap (m * n))
  | .quo => if n = 0 then none else some (k.wrap (m.tdiv n))
  | .rem => if n = 0 then none else some (m.tmod n)
  | _ => none
theorem orc_ari {op : BinOp} {t w : TypeId} {x y : Operand} {a b d : D} {k : IntKind} {m n r : Int} (ha : plain a = .int k m) (hb : plain b = .int k n) (hr : ariI op k m n = some r) (hd : plain d = .int k r) :
    OrcHolds P (.binOp op t x y w) [a, b] d := by
  intro F _ ρ o ho hR
  have h1 := plain_int (hR 0 x a rfl rfl) ha
  have h2 := plain_int (hR 1 y b rfl rfl) hb
  refine ⟨.int k r, ?_, rep_plain_int hd⟩
  simp only [execOp, ho, h1, h2]
  simp only [pureSem_bind, eqGuard_int, Option.bind_some]
  have : pureSem P (binOp op t (.int k m) (.int k n)) = some (.int k r) := by
    cases op <;> simp only [ariI, Option.some.injEq, reduceCtorEq] at hr
    case quo =>
      split at hr
      · simp at hr
      · rename_i hn; simp only [Option.some.injEq] at hr; subst hr; simp [binOp, Op.intDiv, hn]
    case rem =>
      split at hr
      · simp at hr
      · rename_i hn; simp only [Option.some.injEq] at hr; subst hr; simp [binOp, Op.intDiv, hn]
    all_goals (subst hr; simp [binOp, Op.intArith])
  rw [this]
  rfl
def shiftOp : BinOp → Bool
  | .shl | .shr => true
  | _ => false
def bitI (op : BinOp) (k : IntKind) (m n : Int) : Option Int :=
  match op with
  | .shl => if n < 0 then none else some (k.wrap (m * 2 ^ min n.toNat k.bits))
  | .shr => if n < 0 then none else some (m.fdiv (2 ^ min n.toNat k.bits))
  | .and => some (k.wrap (BitVec.ofInt k.bits m &&& BitVec.ofInt k.bits n).toNat)
  | .or => some (k.wrap (BitVec.ofInt k.bits m ||| BitVec.ofInt k.bits n).toNat)
  | .xor => some (k.wrap (BitVec.ofInt k.bits m ^^^ BitVec.ofInt k.bits n).toNat)
  | _ => none
theorem eqGuard_bit {op : BinOp} {k : IntKind} {m n r : Int} (hr : bitI op k m n = some r) (t : TypeId) (x y : Operand) (a b : Value) : pureSem P (eqGuard op t x y a b) = some () := by
  have _s : Sig := inferInstance
  cases op <;> simp only [bitI, reduceCtorEq] at hr <;> rfl
theorem orc_bit {op : BinOp} {t w : TypeId} {x y : Operand} {a b d : D} {k j : IntKind} {m n r : Int} (ha : plain a = .int k m) (hb : plain b = .int j n) (hj : shiftOp op = true ∨ j = k) (hr : bitI op k m n = some r) (hd : plain d = .int k r) :
    OrcHolds P (.binOp op t x y w) [a, b] d := by
  intro F _ ρ o ho hR
  have h1 := plain_int (hR 0 x a rfl rfl) ha
  have h2 := plain_int (hR 1 y b rfl rfl) hb
  refine ⟨.int k r, ?_, rep_plain_int hd⟩
  simp only [execOp, ho, h1, h2]
  simp only [pureSem_bind, eqGuard_bit hr, Option.bind_some]
  have : pureSem P (binOp op t (.int k m) (.int j n)) = some (.int k r) := by
    cases op <;> simp only [bitI, Option.some.injEq, reduceCtorEq] at hr
    case shl =>
      split at hr
      · simp at hr
      · rename_i hn; simp only [Option.some.injEq] at hr; subst hr; simp [binOp, Op.shift, hn, pureSem]
    case shr =>
      split at hr
      · simp at hr
      · rename_i hn; simp only [Option.some.injEq] at hr; subst hr; simp [binOp, Op.shift, hn, pureSem]
    all_goals
      rcases hj with hj | rfl
      · simp [shiftOp] at hj
      · subst hr; simp [binOp, Op.intBits, pureSem]
  rw [this]
  rfl
inductive Fact where
  | cmp (op : BinOp) (a b : D) (r : Bool)
  | ari (op : BinOp) (a b d : D)
  | conv (s t : TypeId) (a d : D)
  | mx (b : Builtin) (a c d : D)
def mxI (b : Builtin) (m n : Int) : Option Int :=
  match b with
  | .max => some (if n > m then n else m)
  | .min => some (if n < m then n else m)
  | _ => none
def Fact.ok (P : Program) : Fact → Prop
  | .cmp op a b r => ∃ k m n, plain a = .int k m ∧ plain b = .int k n ∧ cmpI op m n = some r
  | .ari op a b d => (∃ k m n r, plain a = .int k m ∧ plain b = .int k n ∧ ariI op k m n = some r ∧ plain d = .int k r) ∨ (∃ k j m n r, plain a = .int k m ∧ plain b = .int j n ∧ (shiftOp op = true ∨ j = k) ∧ bitI op k m n = some r ∧ plain d = .int k r)
  | .conv s t a d => ∃ sd k j n, P.underlying s = some sd ∧ plain a = .int k n ∧ P.underlying t = some (.int j) ∧ plain d = .int j (j.wrap n)
  | .mx b a c d => ∃ k m n r, plain a = .int k m ∧ plain c = .int k n ∧ mxI b m n = some r ∧ plain d = .int k r
end
end Go.Proofs.Ytjofhegodknmaaa.V
