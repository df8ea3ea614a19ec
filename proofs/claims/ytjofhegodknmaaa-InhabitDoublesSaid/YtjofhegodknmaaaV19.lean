/- V, 19: what is known of operations on values that have names alone. -/
import Derived.Test.YtjofhegodknmaaaV18
set_option linter.unusedSimpArgs false
set_option linter.unusedVariables false
namespace Go.Proofs.Ytjofhegodknmaaa.V
open Go

def cmpI (op : BinOp) (m n : Int) : Option Bool :=
  match op with
  | .eql => some (m == n)
  | .neq => some (m != n)
  | .lss => some (decide (m < n))
  | .leq => some (decide (m ≤ n))
  | .gtr => some (decide (m > n))
  | .geq => some (decide (m ≥ n))
  | _ => none
/-! What comparisons come to. -/
theorem c_eqlT {m n : Int} (h : m = n) : cmpI .eql m n = some true := by simp [cmpI, h]
theorem c_eqlF {m n : Int} (h : m ≠ n) : cmpI .eql m n = some false := by simp [cmpI, h]
theorem c_neqT {m n : Int} (h : m ≠ n) : cmpI .neq m n = some true := by simp [cmpI, h]
theorem c_neqF {m n : Int} (h : m = n) : cmpI .neq m n = some false := by simp [cmpI, h]
theorem c_lssT {m n : Int} (h : m < n) : cmpI .lss m n = some true := by simp [cmpI, h]
theorem c_lssF {m n : Int} (h : n ≤ m) : cmpI .lss m n = some false := by simp [cmpI, h]
theorem c_leqT {m n : Int} (h : m ≤ n) : cmpI .leq m n = some true := by simp [cmpI, h]
theorem c_leqF {m n : Int} (h : n < m) : cmpI .leq m n = some false := by simp [cmpI, h]
theorem c_gtrT {m n : Int} (h : n < m) : cmpI .gtr m n = some true := by simp [cmpI, h]
theorem c_gtrF {m n : Int} (h : m ≤ n) : cmpI .gtr m n = some false := by simp [cmpI, h]
theorem c_geqT {m n : Int} (h : n ≤ m) : cmpI .geq m n = some true := by simp [cmpI, h]
theorem c_geqF {m n : Int} (h : m < n) : cmpI .geq m n = some false := by simp [cmpI, h]
theorem wr_i8 (n : Int) : IntKind.i8.wrap n = (n + 128) % 256 - 128 := by
  simp only [IntKind.wrap, IntKind.bits, IntKind.signed, Bool.true_and, decide_eq_true_eq, ge_iff_le]
  split <;> omega
theorem wr_i16 (n : Int) : IntKind.i16.wrap n = (n + 32768) % 65536 - 32768 := by
  simp only [IntKind.wrap, IntKind.bits, IntKind.signed, Bool.true_and, decide_eq_true_eq, ge_iff_le]
  split <;> omega
theorem wr_i32 (n : Int) : IntKind.i32.wrap n = (n + 2147483648) % 4294967296 - 2147483648 := by
  simp only [IntKind.wrap, IntKind.bits, IntKind.signed, Bool.true_and, decide_eq_true_eq, ge_iff_le]
  split <;> omega
theorem wr_i64 (n : Int) : IntKind.i64.wrap n = (n + 9223372036854775808) % 18446744073709551616 - 9223372036854775808 := by
  simp only [IntKind.wrap, IntKind.bits, IntKind.signed, Bool.true_and, decide_eq_true_eq, ge_iff_le]
  split <;> omega
theorem wr_u8 (n : Int) : IntKind.u8.wrap n = n % 256 := by simp [IntKind.wrap, IntKind.bits, IntKind.signed]
theorem wr_u16 (n : Int) : IntKind.u16.wrap n = n % 65536 := by simp [IntKind.wrap, IntKind.bits, IntKind.signed]
theorem wr_u32 (n : Int) : IntKind.u32.wrap n = n % 4294967296 := by simp [IntKind.wrap, IntKind.bits, IntKind.signed]
theorem wr_u64 (n : Int) : IntKind.u64.wrap n = n % 18446744073709551616 := by simp [IntKind.wrap, IntKind.bits, IntKind.signed]
theorem wf_int {k : IntKind} {n : Int} (h : (Lit.int k n).wf = true) : k.min ≤ n ∧ n ≤ k.max := by simpa [Lit.wf] using h
def beqMx : Builtin → Builtin → Bool
  | .max, .max | .min, .min => true
  | _, _ => false
theorem beqMx_eq {a b : Builtin} (h : beqMx a b = true) : a = b := by cases a <;> cases b <;> first | rfl | simp [beqMx] at h
section
variable [Sig] {P : Program}

/-- what a name stands for -/
def plain (d : D) : D :=
  match d with
  | .sym i => Sig.σ i
  | d => d
theorem plain_rep {F : Mem} {d : D} {v : Value} (h : Rep F d v) : Rep F (plain d) v := by
  cases h with
  | sym i v ho h => exact h
  | int k n => exact .int k n
  | bool b => exact .bool b
  | str s => exact .str s
  | nil => exact .nil
  | lst l a c sz val hc hsz ho h1 h2 => exact .lst l a c sz val hc hsz ho h1 h2
  | agg cs vs hl ho h => exact .agg cs vs hl ho h
  | fp cs a val hs ho h1 h2 => exact .fp cs a val hs ho h1 h2
  | fn f caps vs hl h => exact .fn f caps vs hl h
  | nul0 => exact .nul0
  | nul1 => exact .nul1
  | nul2 => exact .nul2
  | nul3 => exact .nul3
theorem plain_int {F : Mem} {d : D} {v : Value} {k : IntKind} {n : Int} (h : Rep F d v) (hd : plain d = .int k n) : v = .int k n := by
  have := plain_rep h
  rw [hd] at this
  cases this
  rfl
theorem rep_plain_int {F : Mem} {d : D} {k : IntKind} {n : Int} (hd : plain d = .int k n) : Rep F d (.int k n) := by
  cases d with
  | sym i =>
    have h : Sig.σ i = .int k n := hd
    exact .sym i _ (by rw [h]; rfl) (by rw [h]; exact .int k n)
  | _ => simp only [plain] at hd; cases hd <;> exact .int k n

theorem eqGuard_int (op : BinOp) (t : TypeId) (x y : Operand) (k j : IntKind) (m n : Int) : pureSem P (eqGuard op t x y (.int k m) (.int j n)) = some () := by
  have _s : Sig := inferInstance
  unfold eqGuard
  cases op <;> rfl
theorem orc_cmp {op : BinOp} {t w : TypeId} {x y : Operand} {a b : D} {k : IntKind} {m n : Int} {r : Bool} (ha : plain a = .int k m) (hb : plain b = .int k n) (hr : cmpI op m n = some r) :
    OrcHolds P (.binOp op t x y w) [a, b] (.bool r) := by
  intro F _ ρ o ho hR
  have h1 := plain_int (hR 0 x a rfl rfl) ha
  have h2 := plain_int (hR 1 y b rfl rfl) hb
  refine ⟨.bool r, ?_, .bool r⟩
  simp only [execOp, ho, h1, h2]
  simp only [pureSem_bind, eqGuard_int, Option.bind_some]
  have : pureSem P (binOp op t (.int k m) (.int k n)) = some (.bool r) := by
    cases op <;> simp only [cmpI, Option.some.injEq, reduceCtorEq] at hr <;> subst hr <;> simp [binOp, Op.intCmp] <;> rfl
  rw [this]
  rfl
def ariI (op : BinOp) (k : IntKind) (m n : Int) : Option Int :=
  match op with
  | .add => some (k.wrap (m + n))
  | .sub => some (k.wrap (m - n))
  | .mul => some (k.wrap (m * n))
  | .quo => if n = 0 then none else some (k.wrap (m.tdiv n))
  | .rem => if n = 0 then none else some (m.tmod n)
  | _ => none
theorem orc_ari {op : BinOp} {t w : TypeId} {x y : Operand} {a b d : D} {k : IntKind} {m n r : Int} (ha : plain a = .int k m) (hb : plain b = .int k n) (hr : ariI op k m n = some r) (hd : plain d = .int k r) :
    OrcHolds P (.binOp op t x y w) [a, b] d := by
  intro F _ ρ o ho hR
  have h1 := plain_int (hR 0 x a rfl rfl) ha
  have h2 := plain_int (hR 1 y b rfl rfl) hb
  refine ⟨.int k r, ?_, rep_plain_int hd⟩
  simp only [execOp, ho, h1, h2]
  simp only [pureSem_bind, eqGuard_int, Option.bind_some]
  have : pureSem P (binOp op t (.int k m) (.int k n)) = some (.int k r) := by
    cases op <;> simp only [ariI, Option.some.injEq, reduceCtorEq] at hr
    case quo =>
      split at hr
      · simp at hr
      · rename_i hn; simp only [Option.some.injEq] at hr; subst hr; simp [binOp, Op.intDiv, hn]
    case rem =>
      split at hr
      · simp at hr
      · rename_i hn; simp only [Option.some.injEq] at hr; subst hr; simp [binOp, Op.intDiv, hn]
    all_goals (subst hr; simp [binOp, Op.intArith])
  rw [this]
  rfl
theorem orc_conv {s t : TypeId} {x : Operand} {a d : D} {k j : IntKind} {n : Int} {sd : TypeDesc} (hs : P.underlying s = some sd) (ht : P.underlying t = some (.int j)) (ha : plain a = .int k n) (hd : plain d = .int j (j.wrap n)) :
    OrcHolds P (.convert s t x) [a] d := by
  intro F _ ρ o ho hR
  have h1 := plain_int (hR 0 x a rfl rfl) ha
  refine ⟨.int j (j.wrap n), ?_, rep_plain_int hd⟩
  simp only [execOp, ho, h1]
  have : pureSem P (convert s t (.int k n)) = some (.int j (j.wrap n)) := by
    unfold convert
    simp only [pureSem_bind, pureSem_underlying P s hs, pureSem_underlying P t ht, Option.bind_some]
    rfl
  simp only [pureSem_bind, this, Option.bind_some]
  rfl

def shiftOp : BinOp → Bool
  | .shl | .shr => true
  | _ => false
def bitI (op : BinOp) (k : IntKind) (m n : Int) : Option Int :=
  match op with
  | .shl => if n < 0 then none else some (k.wrap (m * 2 ^ min n.toNat k.bits))
  | .shr => if n < 0 then none else some (m.fdiv (2 ^ min n.toNat k.bits))
  | .and => some (k.wrap (BitVec.ofInt k.bits m &&& BitVec.ofInt k.bits n).toNat)
  | .or => some (k.wrap (BitVec.ofInt k.bits m ||| BitVec.ofInt k.bits n).toNat)
  | .xor => some (k.wrap (BitVec.ofInt k.bits m ^^^ BitVec.ofInt k.bits n).toNat)
  | _ => none
theorem eqGuard_bit {op : BinOp} {k : IntKind} {m n r : Int} (hr : bitI op k m n = some r) (t : TypeId) (x y : Operand) (a b : Value) : pureSem P (eqGuard op t x y a b) = some () := by
  have _s : Sig := inferInstance
  cases op <;> simp only [bitI, reduceCtorEq] at hr <;> rfl
theorem orc_bit {op : BinOp} {t w : TypeId} {x y : Operand} {a b d : D} {k j : IntKind} {m n r : Int} (ha : plain a = .int k m) (hb : plain b = .int j n) (hj : shiftOp op = true ∨ j = k) (hr : bitI op k m n = some r) (hd : plain d = .int k r) :
    OrcHolds P (.binOp op t x y w) [a, b] d := by
  intro F _ ρ o ho hR
  have h1 := plain_int (hR 0 x a rfl rfl) ha
  have h2 := plain_int (hR 1 y b rfl rfl) hb
  refine ⟨.int k r, ?_, rep_plain_int hd⟩
  simp only [execOp, ho, h1, h2]
  simp only [pureSem_bind, eqGuard_bit hr, Option.bind_some]
  have : pureSem P (binOp op t (.int k m) (.int j n)) = some (.int k r) := by
    cases op <;> simp only [bitI, Option.some.injEq, reduceCtorEq] at hr
    case shl =>
      split at hr
      · simp at hr
      · rename_i hn; simp only [Option.some.injEq] at hr; subst hr; simp [binOp, Op.shift, hn, pureSem]
    case shr =>
      split at hr
      · simp at hr
      · rename_i hn; simp only [Option.some.injEq] at hr; subst hr; simp [binOp, Op.shift, hn, pureSem]
    all_goals
      rcases hj with hj | rfl
      · simp [shiftOp] at hj
      · subst hr; simp [binOp, Op.intBits, pureSem]
  rw [this]
  rfl

/-! A table of such. -/
inductive Fact where
  | cmp (op : BinOp) (a b : D) (r : Bool)
  | ari (op : BinOp) (a b d : D)
  | conv (s t : TypeId) (a d : D)
  /-- the greater one, the lesser one -/
  | mx (b : Builtin) (a c d : D)
def beqBin : BinOp → BinOp → Bool
  | .eql, .eql | .neq, .neq | .lss, .lss | .leq, .leq | .gtr, .gtr | .geq, .geq | .add, .add | .sub, .sub | .mul, .mul | .quo, .quo | .rem, .rem | .shl, .shl | .shr, .shr | .and, .and | .or, .or | .xor, .xor => true
  | _, _ => false
theorem beqBin_eq {a b : BinOp} (h : beqBin a b = true) : a = b := by have _s : Sig := inferInstance; cases a <;> cases b <;> first | rfl | simp [beqBin] at h
def lookBin (op : BinOp) (a b : D) : List Fact → Option D
  | [] => none
  | .cmp q a' b' r :: l => if beqBin q op && beqD a' a && beqD b' b then some (.bool r) else lookBin op a b l
  | .ari q a' b' d :: l => if beqBin q op && beqD a' a && beqD b' b then some d else lookBin op a b l
  | _ :: l => lookBin op a b l
def mxI (b : Builtin) (m n : Int) : Option Int :=
  match b with
  | .max => some (if n > m then n else m)
  | .min => some (if n < m then n else m)
  | _ => none
def lookMx (b : Builtin) (a c : D) : List Fact → Option D
  | [] => none
  | .mx b' a' c' d :: l => if beqMx b' b && beqD a' a && beqD c' c then some d else lookMx b a c l
  | _ :: l => lookMx b a c l
def lookConv (s t : TypeId) (a : D) : List Fact → Option D
  | [] => none
  | .conv s' t' a' d :: l => if Nat.beq s' s && Nat.beq t' t && beqD a' a then some d else lookConv s t a l
  | _ :: l => lookConv s t a l
def isSym : D → Bool
  | .sym _ => true
  | _ => false
def orcOf (l : List Fact) : Op → Option (List D → Option D)
  | .binOp op _ _ _ _ => some fun ds =>
    match ds with
    | [a, b] => if isSym a || isSym b then lookBin op a b l else none
    | _ => none
  | .convert s t _ => some fun ds =>
    match ds with
    | [a] => if isSym a then lookConv s t a l else none
    | _ => none
  | .call c =>
    match c.callee with
    | .builtin b => some fun ds =>
      match c.args.toList, ds with
      | [_, _], [x, y] => if isSym x || isSym y then lookMx b x y l else none
      | _, _ => none
    | _ => none
  | _ => none
/-- Is a fact so? -/
def Fact.ok (P : Program) : Fact → Prop
  | .cmp op a b r => ∃ k m n, plain a = .int k m ∧ plain b = .int k n ∧ cmpI op m n = some r
  | .ari op a b d => (∃ k m n r, plain a = .int k m ∧ plain b = .int k n ∧ ariI op k m n = some r ∧ plain d = .int k r) ∨ (∃ k j m n r, plain a = .int k m ∧ plain b = .int j n ∧ (shiftOp op = true ∨ j = k) ∧ bitI op k m n = some r ∧ plain d = .int k r)
  | .conv s t a d => ∃ sd k j n, P.underlying s = some sd ∧ plain a = .int k n ∧ P.underlying t = some (.int j) ∧ plain d = .int j (j.wrap n)
  | .mx b a c d => ∃ k m n r, plain a = .int k m ∧ plain c = .int k n ∧ mxI b m n = some r ∧ plain d = .int k r
theorem okc {op : BinOp} {a b : D} {r : Bool} {k : IntKind} {m n : Int} (h1 : plain a = .int k m) (h2 : plain b = .int k n) (h3 : cmpI op m n = some r) : (Fact.cmp op a b r).ok P := ⟨k, m, n, h1, h2, h3⟩
theorem oka {op : BinOp} {a b d : D} {k : IntKind} {m n r : Int} (h1 : plain a = .int k m) (h2 : plain b = .int k n) (h3 : ariI op k m n = some r) (h4 : plain d = .int k r) : (Fact.ari op a b d).ok P := .inl ⟨k, m, n, r, h1, h2, h3, h4⟩
theorem okb {op : BinOp} {a b d : D} {k j : IntKind} {m n r : Int} (h1 : plain a = .int k m) (h2 : plain b = .int j n) (h0 : shiftOp op = true ∨ j = k) (h3 : bitI op k m n = some r) (h4 : plain d = .int k r) : (Fact.ari op a b d).ok P := .inr ⟨k, j, m, n, r, h1, h2, h0, h3, h4⟩
theorem okv {s t : TypeId} {a d : D} {sd : TypeDesc} {k j : IntKind} {n : Int} (h0 : P.underlying s = some sd) (h1 : plain a = .int k n) (h2 : P.underlying t = some (.int j)) (h3 : plain d = .int j (j.wrap n)) : (Fact.conv s t a d).ok P := ⟨sd, k, j, n, h0, h1, h2, h3⟩
theorem lookBin_ok {l : List Fact} (h : ∀ f ∈ l, f.ok P) {op : BinOp} {a b d : D} (hl : lookBin op a b l = some d) {t w : TypeId} {x y : Operand} : OrcHolds P (.binOp op t x y w) [a, b] d := by
  induction l with
  | nil => simp [lookBin] at hl
  | cons f l ih =>
    have ih' := ih fun g hg => h g (List.mem_cons_of_mem _ hg)
    have hf := h f (List.mem_cons_self ..)
    cases f with
    | cmp q a' b' r =>
      simp only [lookBin] at hl
      split at hl
      · rename_i hc
        simp only [Bool.and_eq_true] at hc
        obtain rfl := beqBin_eq hc.1.1
        obtain rfl := beqD_eq _ _ hc.1.2
        obtain rfl := beqD_eq _ _ hc.2
        obtain rfl := Option.some.inj hl
        obtain ⟨k, m, n, h1, h2, h3⟩ := hf
        exact orc_cmp h1 h2 h3
      · exact ih' hl
    | ari q a' b' e =>
      simp only [lookBin] at hl
      split at hl
      · rename_i hc
        simp only [Bool.and_eq_true] at hc
        obtain rfl := beqBin_eq hc.1.1
        obtain rfl := beqD_eq _ _ hc.1.2
        obtain rfl := beqD_eq _ _ hc.2
        obtain rfl := Option.some.inj hl
        rcases hf with ⟨k, m, n, r, h1, h2, h3, h4⟩ | ⟨k, j, m, n, r, h1, h2, h0, h3, h4⟩
        · exact orc_ari h1 h2 h3 h4
        · exact orc_bit h1 h2 h0 h3 h4
      · exact ih' hl
    | conv s' t' a' e => simp only [lookBin] at hl; exact ih' hl
    | mx b a' c' e => simp only [lookBin] at hl; exact ih' hl
theorem lookConv_ok {l : List Fact} (h : ∀ f ∈ l, f.ok P) {s t : TypeId} {a d : D} (hl : lookConv s t a l = some d) {x : Operand} : OrcHolds P (.convert s t x) [a] d := by
  induction l with
  | nil => simp [lookConv] at hl
  | cons f l ih =>
    have ih' := ih fun g hg => h g (List.mem_cons_of_mem _ hg)
    have hf := h f (List.mem_cons_self ..)
    cases f with
    | conv s' t' a' e =>
      simp only [lookConv] at hl
      split at hl
      · rename_i hc
        simp only [Bool.and_eq_true] at hc
        obtain rfl := Nat.eq_of_beq_eq_true hc.1.1
        obtain rfl := Nat.eq_of_beq_eq_true hc.1.2
        obtain rfl := beqD_eq _ _ hc.2
        obtain rfl := Option.some.inj hl
        obtain ⟨sd, k, j, n, hs, h1, h2, h3⟩ := hf
        exact orc_conv hs h2 h1 h3
      · exact ih' hl
    | _ => simp only [lookConv] at hl; exact ih' hl
theorem okm {b : Builtin} {a c d : D} {k : IntKind} {m n r : Int} (h1 : plain a = .int k m) (h2 : plain c = .int k n) (h3 : mxI b m n = some r) (h4 : plain d = .int k r) : (Fact.mx b a c d).ok P := ⟨k, m, n, r, h1, h2, h3, h4⟩
theorem orc_mx {c : Call} {b : Builtin} {x y : Operand} {p q d : D} {k : IntKind} {m n r : Int} (hcal : c.callee = .builtin b) (hargs : c.args.toList = [x, y]) (ha : plain p = .int k m) (hb : plain q = .int k n) (hr : mxI b m n = some r) (hd : plain d = .int k r) :
    OrcHolds P (.call c) [p, q] d := by
  intro F _ ρ o ho hR
  have hops : (Op.call c).operands.toList = [x, y] := by simp [Op.operands, Call.operands, hcal, hargs]
  have h1 := plain_int (hR 0 x p (by rw [hops]; rfl) rfl) ha
  have h2 := plain_int (hR 1 y q (by rw [hops]; rfl) rfl) hb
  have hca : c.args = #[x, y] := by
    apply Array.ext'
    simpa using hargs
  refine ⟨.int k r, ?_, rep_plain_int hd⟩
  cases b <;> simp only [mxI, Option.some.injEq, reduceCtorEq] at hr
  all_goals
    subst hr
    simp only [execOp, ho, resolve, hcal, hca]
    simp [h1, h2, pureSem_bind, invoke, builtin, Builtin.max_, Builtin.min_, Builtin.max2, Builtin.min2]
theorem lookMx_ok {l : List Fact} (h : ∀ f ∈ l, f.ok P) {c : Call} {b : Builtin} {x y : Operand} {p q d : D} (hcal : c.callee = .builtin b) (hargs : c.args.toList = [x, y]) (hl : lookMx b p q l = some d) : OrcHolds P (.call c) [p, q] d := by
  induction l with
  | nil => simp [lookMx] at hl
  | cons f l ih =>
    have ih' := ih fun g hg => h g (List.mem_cons_of_mem _ hg)
    have hf := h f (List.mem_cons_self ..)
    cases f with
    | mx b' a' c' e =>
      simp only [lookMx] at hl
      split at hl
      · rename_i hc
        simp only [Bool.and_eq_true] at hc
        obtain rfl := beqMx_eq hc.1.1
        obtain rfl := beqD_eq _ _ hc.1.2
        obtain rfl := beqD_eq _ _ hc.2
        obtain rfl := Option.some.inj hl
        obtain ⟨k, m, n, r, h1, h2, h3, h4⟩ := hf
        exact orc_mx hcal hargs h1 h2 h3 h4
      · exact ih' hl
    | _ => simp only [lookMx] at hl; exact ih' hl
theorem orc_of {l : List Fact} (h : ∀ f ∈ l, f.ok P) {an : An} (he : an.orc = orcOf l) : OrcOk P an := by
  intro op t ds d ht hd
  rw [he] at ht
  unfold orcOf at ht
  split at ht
  · obtain rfl := Option.some.inj ht
    simp only at hd
    split at hd
    · split at hd
      · exact lookBin_ok h hd
      · simp at hd
    · simp at hd
  · obtain rfl := Option.some.inj ht
    simp only at hd
    split at hd
    · split at hd
      · exact lookConv_ok h hd
      · simp at hd
    · simp at hd
  · split at ht
    · rename_i c b hcal
      obtain rfl := Option.some.inj ht
      simp only at hd
      split at hd
      · rename_i x y hargs
        split at hd
        · exact lookMx_ok h hcal hargs hd
        · simp at hd
      · simp at hd
    · simp at ht
  · simp at ht
end

end Go.Proofs.Ytjofhegodknmaaa.V
