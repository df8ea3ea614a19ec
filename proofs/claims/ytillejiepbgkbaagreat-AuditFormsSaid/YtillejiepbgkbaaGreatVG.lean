/- V, quickly: code that was looked up ahead is the program's. -/
import Derived.Test.YtillejiepbgkbaaGreatVF
set_option linter.unusedSimpArgs false
set_option linter.unusedVariables false
namespace Go.Proofs.YtillejiepbgkbaaGreat.V
open Go Go.RowKit

def cf : Code → Code
  | .seq a _ => a
  | c => c
def cs : Code → Code
  | .seq _ b => b
  | c => c
def cb : Code → Code
  | .block _ b => b
  | .loop b => b
  | c => c
def ct : Code → Code
  | .cond _ a _ => a
  | c => c
def ce : Code → Code
  | .cond _ _ b => b
  | c => c
def copsOf : Code → Array Oper
  | .region _ o _ => o
  | _ => #[]
def bodyOf (f : Func) : Code := match f.body with
  | some c => c
  | none => .skip
/-- a part of code, by the steps to it (the first one is the last digit) -/
def nvS (n : Nat) (c : Code) : Code :=
  match n with
  | 1 => cf c
  | 2 => cs c
  | 3 => cb c
  | 4 => ct c
  | _ => ce c
def nvK : Nat → Nat → Code → Code
  | 0, _, c => c
  | k + 1, n, c => if Nat.beq n 0 then c else nvK k (n / 10) (nvS (n % 10) c)
def nv (c : Code) (n : Nat) : Code := nvK 200 n c
def rg (c : Code) (n : Nat) : Array Oper := copsOf (nv c n)
def deC : FC → Code
  | .skip => .skip
  | .seq a b => .seq (deC a) (deC b)
  | .cond _ x a b => .cond x (deC a) (deC b)
  | .block id b => .block id (deC b)
  | .loop b => .loop (deC b)
  | .exit id => .exit id
  | .ret => .ret
  | .reg id ops draw _ => .region id ops draw
  | .gap c => c

def T.cnt : T → Nat
  | .leaf _ => 1
  | .node a b => a.cnt + b.cnt
  | .emp => 0
def T.ixOf : T → Pth → Option Nat
  | .leaf _, .z => some 0
  | .node a _, .l p => a.ixOf p
  | .node a b, .r p => (b.ixOf p).map (a.cnt + ·)
  | _, _ => none
def isIx (t : T) (p : Pth) (i : Nat) : Bool :=
  match t.ixOf p with
  | some j => Nat.beq j i
  | none => false
def okA (t0 : T) (x : Operand) (a : A) : Bool :=
  match x, a with
  | .tmp i, .s p => isIx t0 p i
  | .const v, .c (.dat d) => match constD v with | some d' => beqD d' d | none => false
  | .func f, .c (.dat (.fn g [])) => Nat.beq f g
  | _, _ => false
def okAs (t0 : T) : List Operand → List A → Bool
  | [], [] => true
  | x :: r, a :: q => okA t0 x a && okAs t0 r q
  | _, _ => false
def isSize (P : Program) (t : TypeId) (n : Nat) : Bool := match sizeT P t with | some m => Nat.beq m n | none => false
def isAgg' (P : Program) (t : TypeId) (b : Bool) : Bool := match aggT P t with | some c => beqO c b | none => false
def isInt' (P : Program) (t : TypeId) : Bool := match P.underlying t with | some (.int _) => true | _ => false
def isStr' (P : Program) (t : TypeId) : Bool := match P.underlying t with | some .string => true | _ => false
def isSlc (P : Program) (t : TypeId) : Bool := match P.underlying t with | some (.slice _) => true | _ => false
def hasBody (P : Program) (f : Nat) : Bool := match P.funcs[f]? with | some fn => fn.body.isSome | none => false
def okM (P : Program) (t0 : T) (o : Oper) (m : M) : Bool :=
  match m with
  | .gen => true
  | .mv a => match o.op with | .move x => okA t0 x a | .assign x => okA t0 x a | _ => false
  | .nilc a => match o.op with | .nilCheck x => okA t0 x a | _ => false
  | .fadr off a => match o.op with
    | .fieldAddr s x f => okA t0 x a && (match fieldOf P s f with | some fd => Nat.beq fd.offset off && (match sizeT P fd.type with | some n => Nat.blt 0 n | none => false) | none => false)
    | _ => false
  | .load n ag a => match o.op with | .load t x => okA t0 x a && isSize P t n && isAgg' P t ag && (ag || Nat.beq n 1) | _ => false
  | .store n a b => match o.op with | .store t x y => okA t0 x a && okA t0 y b && isSize P t n | _ => false
  | .box ty n ag a => match o.op with | .box t x => okA t0 x a && Nat.beq t ty && isSize P t n && isAgg' P t ag && Nat.blt 0 n | _ => false
  | .alloc ty n ag z => match o.op with
    | .alloc t => Nat.beq t ty && isSize P t n && isAgg' P t ag && Nat.blt 0 n && Nat.beq z.length n && z.all U.one && (match zeroT P t with | some z' => beqUs (z'.map .dat) z | none => false)
    | _ => false
  | .cmp op a b => match o.op with | .binOp q _ x y _ => beqBin q op && okA t0 x a && okA t0 y b | _ => false
  | .ari op a b => match o.op with | .binOp q _ x y _ => beqBin q op && okA t0 x a && okA t0 y b | _ => false
  | .seq neg a b => match o.op with | .binOp q t x y _ => beqBin q (if neg then .neq else .eql) && isStr' P t && okA t0 x a && okA t0 y b | _ => false
  | .notB a => match o.op with | .unOp .not _ x => okA t0 x a | _ => false
  | .ext a i => match o.op with | .extract x j => Nat.beq i j && okA t0 x a | _ => false
  | .pick c a b => match o.op with | .pick z x y => okA t0 z c && okA t0 x a && okA t0 y b | _ => false
  | .len a => match o.op with
    | .call c => (match c.callee, c.args.toList, c.argTypes.toList with | .builtin .len, [x], [t] => isSlc P t && okA t0 x a | _, _, _ => false)
    | _ => false
  | .slen a => match o.op with
    | .call c => (match c.callee, c.args.toList, c.argTypes.toList with | .builtin .len, [x], [t] => isStr' P t && okA t0 x a | _, _, _ => false)
    | _ => false
  | .idx sz a b => match o.op with | .indexAddr t x y => okA t0 x a && okA t0 y b && (match P.underlying t with | some (.slice e) => isSize P e sz | _ => false) | _ => false
  | .sidx a b => match o.op with | .index t x y => okA t0 x a && okA t0 y b && isStr' P t | _ => false
  | .fld off n ag a => match o.op with
    | .field t x f => okA t0 x a && !ag && (match fieldOf P t f with | some fd => Nat.beq fd.offset off && isSize P fd.type n && isAgg' P fd.type false | none => false)
    | _ => false
  | .call f l => match o.op with
    | .call c => (match c.callee with | .value (.func g) => Nat.beq f g && hasBody P f && okAs t0 c.args.toList l | _ => false)
    | _ => false
def okMO (P : Program) (t0 : T) (ops : Array Oper) (o : Oper) (mo : MO) : Bool :=
  okM P t0 o mo.m &&
  (match o.dst, mo.dst with | none, none => true | some i, some p => isIx t0 p i | _, _ => false) &&
  (match o.guard, mo.gd with
   | none, none => true
   | some (j, b), some (p, c) => beqO b c && (match (ops[j]?).bind (·.dst) with | some i => isIx t0 p i | none => false)
   | _, _ => false)
def okL (P : Program) (t0 : T) (ops : Array Oper) : List Oper → List MO → Bool
  | [], [] => true
  | o :: r, m :: q => okMO P t0 ops o m && okL P t0 ops r q
  | _, _ => false
def okFC (P : Program) (t0 : T) : FC → Bool
  | .seq a b => okFC P t0 a && okFC P t0 b
  | .cond a x b c => okA t0 x a && okFC P t0 b && okFC P t0 c
  | .block _ b => okFC P t0 b
  | .loop b => okFC P t0 b
  | .reg _ ops _ l => okL P t0 ops ops.toList l
  | _ => true
def okAp (t0 : T) : Nat → List Pth → Bool
  | _, [] => true
  | i, p :: r => isIx t0 p i && okAp t0 (i + 1) r
def okRs (P : Program) (t0 : T) : List ResultVar → List RV → Bool
  | [], [] => true
  | .tmp i :: r, .tmp p :: q => isIx t0 p i && okRs P t0 r q
  | .cell a t :: r, .cell p ty n ag :: q => isIx t0 p a && Nat.beq t ty && isSize P t n && isAgg' P t ag && (ag || Nat.beq n 1) && okRs P t0 r q
  | _, _ => false
noncomputable def okF (P : Program) (fn : Func) (ff : FFun) : Bool :=
  beqUs ff.t0.toL (List.replicate ff.n .undef) && okAp ff.t0 0 ff.ap && Nat.ble ff.ap.length ff.n && okRs P ff.t0 fn.results.toList ff.res && okFC P ff.t0 ff.code
def FunOk (P : Program) (f : Nat) (ff : FFun) : Prop :=
  ∃ fn c, P.funcs[f]? = some fn ∧ fn.body = some c ∧ c = deC ff.code ∧ fn.ntmps = ff.n ∧ okF P fn ff = true
def TabOk (P : Program) : TT → Prop
  | .e => True
  | .leaf f x => FunOk P f x
  | .node _ a b => TabOk P a ∧ TabOk P b

end Go.Proofs.YtillejiepbgkbaaGreat.V
