/- The evaluator V: what a call of a Go function computes, as a Lean function on trees (D) and on a small store of the call's own objects. It is proved sound against the model in the texts V2 to V5. -/
import Derived.WalkKit
namespace Go.Proofs.Ytjofhegodknmaaa.V
open Go
inductive D where
  | int (k : IntKind) (n : Int)
  | bool (b : Bool)
  | str (s : ByteArray)
  | nil
  | lst (l : List D)
  | agg (cs : List D)
  | fp (cs : List D)
  | fn (f : Nat) (caps : List D)
  | nul (k : Nat)
  | sym (i : Nat)
  deriving Inhabited
inductive U where
  | dat (d : D)
  | ptr (o g p : Nat)
  | own (o g off n : Nat)
  | agg (cs : List U)
  | tup (l : List U)
  | fn (f : Nat) (caps : List U)
  | undef
  | junk
  | map (o g : Nat)
  deriving Inhabited
structure Obj where
  ty : TypeId
  esz : Nat
  ag : Bool
  gen : Nat
  snap : Bool
  cells : List U
  deriving Inhabited
def D.one : D → Bool
  | .agg _ => false
  | _ => true
def U.one : U → Bool
  | .dat d => d.one
  | .agg _ => false
  | .tup _ => false
  | .undef => false
  | .junk => false
  | _ => true
abbrev Store := List (Nat × Obj)
def getO : Store → Nat → Option Obj
  | [], _ => none
  | (o', e) :: r, o => if o' = o then some e else getO r o
def setO : Store → Nat → Obj → Store
  | [], o, e => [(o, e)]
  | (o', e') :: r, o, e => if o' = o then (o, e) :: r else (o', e') :: setO r o e
def setAll (s : Store) : List (Nat × Obj) → Store
  | [] => s
  | (o, e) :: r => setAll (setO s o e) r
def updF (g : Nat → Option Obj) : List (Nat × Obj) → Nat → Option Obj
  | [] => g
  | (o, e) :: r => updF (fun x => if x = o then some e else g x) r
structure St where
  tm : List U
  st : Store
  nx : Nat
  deriving Inhabited
section force
variable {β : Type}
def forceN (n : Nat) (k : Nat → β) : β :=
  match n with
  | 0 => k 0
  | m + 1 => k (m + 1)
def forceI (n : Int) (k : Int → β) : β :=
  match n with
  | .ofNat m => forceN m fun m => k (.ofNat m)
  | .negSucc m => forceN m fun m => k (.negSucc m)
def forceB (b : Bool) (k : Bool → β) : β :=
  match b with
  | true => k true
  | false => k false
def forceNs (l : List Nat) (k : List Nat → β) : β :=
  match l with
  | [] => k []
  | a :: r => forceN a fun a => forceNs r fun r => k (a :: r)
def forceBs (l : List UInt8) (k : List UInt8 → β) : β :=
  match l with
  | [] => k []
  | a :: r => forceN a.toNat fun a => forceBs r fun r => k (UInt8.ofNat a :: r)
def forceS (s : ByteArray) (k : ByteArray → β) : β := forceBs s.data.toList fun l => k ⟨⟨l⟩⟩
mutual
def forceD (d : D) (k : D → β) : β :=
  match d with
  | .int t n => forceI n fun n => k (.int t n)
  | .bool b => forceB b fun b => k (.bool b)
  | .str s => forceS s fun s => k (.str s)
  | .nil => k .nil
  | .lst l => forceDs l fun l => k (.lst l)
  | .agg l => forceDs l fun l => k (.agg l)
  | .fp l => forceDs l fun l => k (.fp l)
  | .fn f l => forceN f fun f => forceDs l fun l => k (.fn f l)
  | .nul n => forceN n fun n => k (.nul n)
  | .sym n => forceN n fun n => k (.sym n)
def forceDs (l : List D) (k : List D → β) : β :=
  match l with
  | [] => k []
  | a :: r => forceD a fun a => forceDs r fun r => k (a :: r)
end
def forceL {α : Type} (l : List α) (k : List α → β) : β :=
  match l with
  | [] => k []
  | a :: r => forceL r fun r => k (a :: r)
def forceE (d : D) (k : D → β) : β :=
  match d with
  | .int t n => forceI n fun n => k (.int t n)
  | .bool b => forceB b fun b => k (.bool b)
  | .str s => k (.str s)
  | .nil => k .nil
  | .lst l => forceL l fun l => k (.lst l)
  | .agg l => forceL l fun l => k (.agg l)
  | .fp l => forceL l fun l => k (.fp l)
  | .fn f l => forceN f fun f => forceL l fun l => k (.fn f l)
  | .nul n => forceN n fun n => k (.nul n)
  | .sym n => forceN n fun n => k (.sym n)
mutual
def forceU (u : U) (k : U → β) : β :=
  match u with
  | .dat d => forceE d fun d => k (.dat d)
  | .ptr o g p => forceN o fun o => forceN g fun g => forceN p fun p => k (.ptr o g p)
  | .own o g a n => forceN o fun o => forceN g fun g => forceN a fun a => forceN n fun n => k (.own o g a n)
  | .agg l => forceUs l fun l => k (.agg l)
  | .tup l => forceUs l fun l => k (.tup l)
  | .fn f l => forceN f fun f => forceUs l fun l => k (.fn f l)
  | .undef => k .undef
  | .junk => k .junk
  | .map o g => forceN o fun o => forceN g fun g => k (.map o g)
def forceUs (l : List U) (k : List U → β) : β :=
  match l with
  | [] => k []
  | a :: r => forceU a fun a => forceUs r fun r => k (a :: r)
end
def forceC (l : List U) (k : List U → β) : β :=
  match l with
  | [] => k []
  | a :: r =>
    match a with
    | .dat d => forceC r fun r => k (.dat d :: r)
    | a => forceU a fun a => forceC r fun r => k (a :: r)
def forceO (e : Obj) (k : Obj → β) : β :=
  match e with
  | ⟨ty, esz, ag, gen, snap, cells⟩ => forceN ty fun ty => forceN esz fun esz => forceB ag fun ag => forceN gen fun gen => forceB snap fun snap => forceC cells fun cells => k ⟨ty, esz, ag, gen, snap, cells⟩
def forceUp (l : List (Nat × Obj)) (k : List (Nat × Obj) → β) : β :=
  match l with
  | [] => k []
  | (o, e) :: r => forceN o fun o => forceO e fun e => forceUp r fun r => k ((o, e) :: r)
theorem forceN_eq (n : Nat) (k : Nat → β) : forceN n k = k n := by cases n <;> rfl
theorem forceI_eq (n : Int) (k : Int → β) : forceI n k = k n := by cases n <;> simp [forceI, forceN_eq]
theorem forceB_eq (b : Bool) (k : Bool → β) : forceB b k = k b := by cases b <;> rfl
theorem forceNs_eq : ∀ (l : List Nat) (k : List Nat → β), forceNs l k = k l
  | [], k => rfl
  | a :: r, k => by simp only [forceNs, forceN_eq, forceNs_eq r]
theorem forceBs_eq : ∀ (l : List UInt8) (k : List UInt8 → β), forceBs l k = k l
  | [], k => rfl
  | a :: r, k => by simp only [forceBs, forceN_eq, forceBs_eq r, UInt8.ofNat_toNat]
theorem forceS_eq (s : ByteArray) (k : ByteArray → β) : forceS s k = k s := by simp only [forceS, forceBs_eq]
mutual
theorem forceD_eq : ∀ (d : D) (k : D → β), forceD d k = k d
  | .int t n, k => by simp only [forceD, forceI_eq]
  | .bool b, k => by simp only [forceD, forceB_eq]
  | .str s, k => by simp only [forceD, forceS_eq]
  | .nil, k => by simp only [forceD]
  | .lst l, k => by simp only [forceD, forceDs_eq l]
  | .agg l, k => by simp only [forceD, forceDs_eq l]
  | .fp l, k => by simp only [forceD, forceDs_eq l]
  | .fn f l, k => by simp only [forceD, forceN_eq, forceDs_eq l]
  | .nul n, k => by simp only [forceD, forceN_eq]
  | .sym n, k => by simp only [forceD, forceN_eq]
theorem forceDs_eq : ∀ (l : List D) (k : List D → β), forceDs l k = k l
  | [], k => by simp only [forceDs]
  | a :: r, k => by simp only [forceDs, forceD_eq a, forceDs_eq r]
end
theorem forceL_eq {α : Type} : ∀ (l : List α) (k : List α → β), forceL l k = k l
  | [], k => rfl
  | a :: r, k => by simp only [forceL, forceL_eq r]
theorem forceE_eq (d : D) (k : D → β) : forceE d k = k d := by cases d <;> simp only [forceE, forceI_eq, forceB_eq, forceL_eq, forceN_eq]
mutual
theorem forceU_eq : ∀ (u : U) (k : U → β), forceU u k = k u
  | .dat d, k => by simp only [forceU, forceE_eq]
  | .ptr o g p, k => by simp only [forceU, forceN_eq]
  | .own o g a n, k => by simp only [forceU, forceN_eq]
  | .agg l, k => by simp only [forceU, forceUs_eq l]
  | .tup l, k => by simp only [forceU, forceUs_eq l]
  | .fn f l, k => by simp only [forceU, forceN_eq, forceUs_eq l]
  | .undef, k => by simp only [forceU]
  | .junk, k => by simp only [forceU]
  | .map o g, k => by simp only [forceU, forceN_eq]
theorem forceUs_eq : ∀ (l : List U) (k : List U → β), forceUs l k = k l
  | [], k => by simp only [forceUs]
  | a :: r, k => by simp only [forceUs, forceU_eq a, forceUs_eq r]
end
theorem forceC_eq : ∀ (l : List U) (k : List U → β), forceC l k = k l
  | [], k => rfl
  | a :: r, k => by cases a <;> simp only [forceC, forceU_eq, forceC_eq r]
theorem forceO_eq (e : Obj) (k : Obj → β) : forceO e k = k e := by cases e; simp only [forceO, forceN_eq, forceB_eq, forceC_eq]
theorem forceUp_eq : ∀ (l : List (Nat × Obj)) (k : List (Nat × Obj) → β), forceUp l k = k l
  | [], k => rfl
  | (o, e) :: r, k => by simp only [forceUp, forceN_eq, forceO_eq, forceUp_eq r]
end force
def const1 : Value → Option D
  | .int k n => some (.int k n)
  | .bool b => some (.bool b)
  | .string s => some (.str s)
  | .slice none 0 0 => some .nil
  | .pointer none => some (.nul 0)
  | .map none => some (.nul 1)
  | .nilFunc => some (.nul 2)
  | .nilIface => some (.nul 3)
  | .func (.func f) a b => if a.isEmpty && b.isEmpty then some (.fn f []) else none
  | _ => none
def constD : Value → Option D
  | .agg cs => (cs.toList.mapM const1).map .agg
  | v => const1 v
def val1 : D → Option Value
  | .int k n => some (.int k n)
  | .bool b => some (.bool b)
  | .str s => some (.string s)
  | .nil => some (.slice none 0 0)
  | .nul 0 => some (.pointer none)
  | .nul 1 => some (.map none)
  | .nul 2 => some .nilFunc
  | .nul 3 => some .nilIface
  | .fn f [] => some (.func (.func f) #[] #[])
  | _ => none
def valD : D → Option Value
  | .agg cs => (cs.mapM val1).map fun l => .agg l.toArray
  | d => val1 d
def valU : U → Option Value
  | .dat d => valD d
  | _ => none
def pureSem {α : Type} (P : Program) : Sem α → Option α
  | .pure a => some a
  | .program k => pureSem P (k P)
  | .mark _ k => pureSem P k
  | _ => none
def sizeT (P : Program) (t : TypeId) : Option Nat := (P.info? t).map (·.size)
def aggT (P : Program) (t : TypeId) : Option Bool :=
  match P.underlying t with
  | some (.struct _) | some (.array _ _) => some true
  | some _ => some false
  | none => none
def zeroT (P : Program) (t : TypeId) : Option (List D) :=
  match P.info? t with
  | some i => match i.zero with
    | some v => v.cells.toList.mapM const1
    | none => none
  | none => none
def asDat : U → Option D
  | .dat d => some d
  | _ => none
def D.cells : D → List D
  | .agg cs => cs
  | d => [d]
def U.cells : U → List U
  | .dat (.agg ds) => ds.map .dat
  | .agg cs => cs
  | u => [u]
def mkAgg (cs : List U) : U :=
  match cs.mapM asDat with
  | some ds => .dat (.agg ds)
  | none => .agg cs
def chunk (ag : Bool) (esz : Nat) : Nat → List D → List D
  | 0, _ => []
  | n + 1, l => (if ag then .agg (l.take esz) else l.headD .nil) :: chunk ag esz n (l.drop esz)
section view
variable (g : Nat → Option Obj)
def toD : Nat → U → Option (D × List Nat)
  | 0, _ => none
  | _ + 1, .dat d => some (d, [])
  | k + 1, .own o gn off n =>
    match g o with
    | some ob =>
      if ob.gen = gn ∧ (off + n) * ob.esz ≤ ob.cells.length ∧ 0 < ob.esz ∧ (ob.ag = true ∨ ob.esz = 1) then
        match ((ob.cells.drop (off * ob.esz)).take (n * ob.esz)).mapM (toD k) with
        | some cs => some (.lst (chunk ob.ag ob.esz n (cs.map (·.1))), o :: cs.flatMap (·.2))
        | none => none
      else none
    | none => none
  | k + 1, .ptr o gn p =>
    match g o with
    | some ob =>
      if ob.gen = gn ∧ 0 < ob.esz then
        match (ob.cells.drop p).mapM (toD k) with
        | some cs => some (.fp (cs.map (·.1)), o :: cs.flatMap (·.2))
        | none => none
      else none
    | none => none
  | k + 1, .agg cs =>
    match cs.mapM (toD k) with
    | some ds => some (.agg (ds.map (·.1)), ds.flatMap (·.2))
    | none => none
  | k + 1, .fn f caps =>
    match caps.mapM (toD k) with
    | some ds => some (.fn f (ds.map (·.1)), ds.flatMap (·.2))
    | none => none
  | _ + 1, _ => none
mutual
def refs : U → List Nat
  | .ptr o _ _ => [o]
  | .own o _ _ _ => [o]
  | .agg cs => refsL cs
  | .tup cs => refsL cs
  | .fn _ cs => refsL cs
  | .dat _ => []
  | .undef => []
  | .junk => []
  | .map o _ => [o]
def refsL : List U → List Nat
  | [] => []
  | u :: r => refs u ++ refsL r
end
def reach : Nat → List Nat → List Nat → List Nat
  | 0, _, acc => acc
  | _ + 1, [], acc => acc
  | k + 1, o :: todo, acc =>
    if acc.contains o then reach k todo acc
    else match g o with
      | some ob => reach k (refsL ob.cells ++ todo) (o :: acc)
      | none => reach k todo (o :: acc)
def closed (ids : List Nat) : Bool := ids.all fun o =>
  match g o with
  | some ob => (refsL ob.cells).all fun x => ids.contains x
  | none => true
end view
structure Res where
  u : U
  rd : List Nat
  up : List (Nat × Obj)
structure An where
  io : Nat → Bool
  ownRes : Nat → Bool
  spec : Nat → List D → Option (List D)
  orc : Op → Option (List D → Option D) := fun _ => none
  call : Nat → List U → Store → Nat → Option (U × Store × Nat) := fun _ _ _ _ => none
  ior : Nat → Bool := fun _ => false
section ops
variable (P : Program) (g : Nat → Option Obj) (id : Nat)
def evalU (tm : List U) : Operand → Option U
  | .tmp t => tm[t]?
  | .const v => (constD v).map .dat
  | .global _ => none
  | .func f => some (.dat (.fn f []))
def opPure (tm : List U) (o : Oper) : Option Res :=
  if o.op.operands.toList.all (fun x => ((evalU tm x).bind valU).isSome) then
    match o.op with
    | .select _ _ => none
    | _ =>
      match pureSem P (execOp (fun x => ((evalU tm x).bind valU).getD undef) o) with
      | some (.value v) => (constD v).map fun d => ⟨.dat d, [], []⟩
      | _ => none
  else none
def opAlloc (t : TypeId) (cells : List U) : Option Res :=
  match sizeT P t, aggT P t with
  | some n, some a => if cells.length = n ∧ 0 < n ∧ cells.all U.one then some ⟨.ptr id 0 0, [], [(id, ⟨t, n, a, 0, false, cells⟩)]⟩ else none
  | _, _ => none
def opLoad (t : TypeId) : U → Option Res
  | .ptr o gn p =>
    match g o, sizeT P t, aggT P t with
    | some ob, some n, some a =>
      if ob.gen = gn ∧ 0 < ob.esz ∧ p + n ≤ ob.cells.length then
        if a then some ⟨mkAgg ((ob.cells.drop p).take n), [o], []⟩
        else (ob.cells[p]?).map fun u => ⟨u, [o], []⟩
      else none
    | _, _, _ => none
  | .dat (.fp cs) =>
    match sizeT P t, aggT P t with
    | some n, some a =>
      if n ≤ cs.length then
        if a then some ⟨.dat (.agg (cs.take n)), [], []⟩ else (cs[0]?).map fun d => ⟨.dat d, [], []⟩
      else none
    | _, _ => none
  | _ => none
def splice (l : List U) (p : Nat) (new : List U) : List U := l.take p ++ new ++ l.drop (p + new.length)
def opStore (t : TypeId) (a x : U) : Option Res :=
  match a with
  | .ptr o gn p =>
    match g o, sizeT P t with
    | some ob, some n =>
      if ob.gen = gn ∧ 0 < ob.esz ∧ ob.snap = false ∧ x.cells.length = n ∧ p + n ≤ ob.cells.length ∧ x.cells.all U.one then
        some ⟨.undef, [o], [(o, { ob with cells := splice ob.cells p x.cells })]⟩
      else none
    | _, _ => none
  | _ => none
def fillU (place : Nat → Option (Nat × Nat)) (cells : List U) : List (Nat × U) → Option (List U)
  | [] => some cells
  | (i, v) :: rest =>
    match place i with
    | none => none
    | some (off, size) =>
      if v.cells.length = size ∧ off + size ≤ cells.length ∧ v.cells.all U.one then fillU place (splice cells off v.cells) rest else none
def fieldOf (t : TypeId) (f : Nat) : Option Field :=
  match P.underlying t with
  | some (.struct fs) => fs[f]?
  | _ => none
def partsU (tm : List U) (parts : Array (Nat × Operand)) : Option (List (Nat × U)) :=
  parts.toList.mapM fun (i, x) => (evalU tm x).map fun u => (i, u)
def opBuild (tm : List U) (t : TypeId) (parts : Array (Nat × Operand)) : Option Res :=
  match zeroT P t, partsU tm parts with
  | some z, some ps =>
    match P.underlying t with
    | some (.struct fs) =>
      match fs.toList.mapM (fun f => (P.info? f.type).map fun i => (f.offset, i.size)) with
      | some places => (fillU (places.toArray[·]?) (z.map .dat) ps).map fun cs => ⟨mkAgg cs, [], []⟩
      | none => none
    | some (.array _ e) =>
      match sizeT P e with
      | some n => (fillU (fun i => some (i * n, n)) (z.map .dat) ps).map fun cs => ⟨mkAgg cs, [], []⟩
      | none => none
    | _ => none
  | _, _ => none
def repeatD (z : List D) : Nat → List U
  | 0 => []
  | n + 1 => z.map .dat ++ repeatD z n
def opBuildSlice (tm : List U) (t : TypeId) (len : Nat) (parts : Array (Nat × Operand)) : Option Res :=
  match P.underlying t, partsU tm parts with
  | some (.slice e), some ps =>
    match sizeT P e, aggT P e, zeroT P e with
    | some n, some a, some z =>
      if 0 < n ∧ z.length = n ∧ len * n ≤ 16777216 then
        (fillU (fun i => some (i * n, n)) (repeatD z len) ps).map fun cs => ⟨.own id 0 0 len, [], [(id, ⟨e, n, a, 0, false, cs⟩)]⟩
      else none
    | _, _, _ => none
  | _, _ => none
def opFieldAddr (s : TypeId) (f : Nat) (u : U) : Option Res :=
  match fieldOf P s f with
  | some fd =>
    match sizeT P fd.type with
    | some n =>
      if n = 0 then none else
      match u with
      | .ptr o gn p => some ⟨.ptr o gn (p + fd.offset), [], []⟩
      | .dat (.fp cs) => some ⟨.dat (.fp (cs.drop fd.offset)), [], []⟩
      | _ => none
    | none => none
  | none => none
def opField (t : TypeId) (f : Nat) (u : U) : Option Res :=
  match fieldOf P t f with
  | some fd =>
    match sizeT P fd.type, aggT P fd.type, u with
    | some n, some a, .dat (.agg ds) =>
      if a then (if fd.offset + n ≤ ds.length then some ⟨.dat (.agg ((ds.drop fd.offset).take n)), [], []⟩ else none)
      else (ds[fd.offset]?).map fun d => ⟨.dat d, [], []⟩
    | some n, some a, .agg cs =>
      if a then (if fd.offset + n ≤ cs.length then some ⟨mkAgg ((cs.drop fd.offset).take n), [], []⟩ else none)
      else (cs[fd.offset]?).map fun u => ⟨u, [], []⟩
    | _, _, _ => none
  | none => none
def opIndexAddr (t : TypeId) (x ix : U) : Option Res :=
  match ix, P.underlying t, x with
  | .dat (.int _ i), some (.slice e), .own o gn off n =>
    match g o, sizeT P e with
    | some ob, some sz => if ob.gen = gn ∧ sz = ob.esz ∧ 0 < sz ∧ 0 ≤ i ∧ i < n then some ⟨.ptr o gn ((off + i.toNat) * sz), [o], []⟩ else none
    | _, _ => none
  | .dat (.int _ i), some (.slice e), .dat (.lst l) =>
    match sizeT P e, l[i.toNat]? with
    | some sz, some d => if 0 ≤ i ∧ d.cells.length = sz ∧ 0 < sz then some ⟨.dat (.fp d.cells), [], []⟩ else none
    | _, _ => none
  | .dat (.int _ i), some (.array len e), .ptr o gn p =>
    match sizeT P e with
    | some sz => if 0 ≤ i ∧ i < len then some ⟨.ptr o gn (p + i.toNat * sz), [], []⟩ else none
    | none => none
  | .dat (.int _ i), some (.array len e), .dat (.fp cs) =>
    match sizeT P e with
    | some sz => if 0 ≤ i ∧ i < len then some ⟨.dat (.fp (cs.drop (i.toNat * sz))), [], []⟩ else none
    | none => none
  | _, _, _ => none
def opIndex (t : TypeId) (x ix : U) : Option Res :=
  match ix, P.underlying t, x with
  | .dat (.int _ i), some (.array len e), .dat (.agg ds) =>
    match sizeT P e, aggT P e with
    | some n, some a =>
      if 0 ≤ i ∧ i < len then
        if a then (if i.toNat * n + n ≤ ds.length then some ⟨.dat (.agg ((ds.drop (i.toNat * n)).take n)), [], []⟩ else none)
        else (ds[i.toNat * n]?).map fun d => ⟨.dat d, [], []⟩
      else none
    | _, _ => none
  | _, _, _ => none
def bound (d : Nat) : Option U → Option Nat
  | none => some d
  | some (.dat (.int _ i)) => if 0 ≤ i then some i.toNat else none
  | _ => none
def optU (tm : List U) : Option Operand → Option (Option U)
  | none => some none
  | some x => (evalU tm x).map some
def opSlice (tm : List U) (t : TypeId) (x : U) (lo hi mx : Option Operand) : Option Res :=
  match mx, optU tm lo, optU tm hi, P.underlying t with
  | none, some l, some h, some (.slice e) =>
    match x with
    | .dat (.lst es) =>
      match bound 0 l, bound es.length h, sizeT P e with
      | some a, some b, some sz => if a ≤ b ∧ b ≤ es.length ∧ es.all (fun d => d.cells.length == sz) then some ⟨.dat (.lst ((es.take b).drop a)), [], []⟩ else none
      | _, _, _ => none
    | .dat .nil =>
      match bound 0 l, bound 0 h, sizeT P e with
      | some 0, some 0, some _ => some ⟨.dat .nil, [], []⟩
      | _, _, _ => none
    | .own o gn off n =>
      match bound 0 l, bound n h, g o, sizeT P e with
      | some a, some b, some ob, some sz => if ob.gen = gn ∧ sz = ob.esz ∧ 0 < sz ∧ a ≤ b ∧ b ≤ n then some ⟨.own o gn (off + a) (b - a), [o], []⟩ else none
      | _, _, _, _ => none
    | _ => none
  | _, _, _, _ => none
def bytesU (s : ByteArray) : List U := s.data.toList.map fun b => .dat (.int .u8 b.toNat)
def srcCells (esz : Nat) : U → Option (List U × Nat × List Nat)
  | .dat .nil => some ([], 0, [])
  | .dat (.lst l) => if l.all (fun d => d.cells.length == esz) then some ((l.flatMap D.cells).map .dat, l.length, []) else none
  | .dat (.str s) => if esz = 1 then some (bytesU s, s.size, []) else none
  | .own o gn off n =>
    match g o with
    | some ob => if ob.gen = gn ∧ ob.esz = esz ∧ (off + n) * esz ≤ ob.cells.length then some ((ob.cells.drop (off * esz)).take (n * esz), n, [o]) else none
    | none => none
  | _ => none
def isRowT (t : TypeId) : Bool :=
  match P.underlying t with
  | some (.slice _) | some .string => true
  | _ => false
def opAppend (t tx : TypeId) (s x : U) : Option Res :=
  if isRowT P tx then
  match P.underlying t with
  | some (.slice e) =>
    match P.info? e, aggT P e, zeroT P e with
    | some i, some a, some z =>
      if 0 < i.size ∧ 0 < i.bytes ∧ z.length = i.size then
        match srcCells g i.size x with
        | some (xs, m, rd) =>
          match s with
          | .dat .nil =>
            if m = 0 then some ⟨.dat .nil, rd, []⟩
            else if m * i.bytes ≤ 140737488355328 then some ⟨.own id 0 0 m, rd, [(id, ⟨e, i.size, a, 0, false, xs⟩)]⟩ else none
          | .own o gn off n =>
            match g o with
            | some ob =>
              if ob.gen = gn ∧ off = 0 ∧ n * i.size = ob.cells.length ∧ ob.esz = i.size ∧ ob.ty = e then
                if m = 0 then some ⟨.own o gn off n, o :: rd, []⟩
                else if (n + m) * i.bytes ≤ 140737488355328 then some ⟨.own o (gn + 1) 0 (n + m), o :: rd, [(o, { ob with gen := gn + 1, cells := ob.cells ++ xs })]⟩
                else none
              else none
            | none => none
          | _ => none
        | none => none
      else none
    | _, _, _ => none
  | _ => none
  else none
def opLen (t : TypeId) : U → Option Res
  | .dat (.lst l) => match P.underlying t with | some (.slice _) => some ⟨.dat (.int .i64 l.length), [], []⟩ | _ => none
  | .own _ _ _ n => match P.underlying t with | some (.slice _) => some ⟨.dat (.int .i64 n), [], []⟩ | _ => none
  | _ => none
def opMakeSlice (t : TypeId) (l c : U) : Option Res :=
  match P.underlying t, l, c with
  | some (.slice e), .dat (.int .i64 n), .dat (.int .i64 m) =>
    match P.info? e, aggT P e, zeroT P e with
    | some i, some a, some z =>
      if 0 ≤ n ∧ n ≤ m ∧ m * i.bytes ≤ 140737488355328 ∧ 0 < i.size ∧ 0 < i.bytes ∧ z.length = i.size then
        some ⟨.own id 0 0 n.toNat, [], [(id, ⟨e, i.size, a, 0, false, repeatD z n.toNat⟩)]⟩
      else none
    | _, _, _ => none
  | _, _, _ => none
def opEql (t : TypeId) (neg : Bool) (u v : U) : Option Res :=
  match P.underlying t, u, v with
  | some (.slice _), .dat (.lst _), .dat .nil => some ⟨.dat (.bool (false != neg)), [], []⟩
  | some (.slice _), .own _ _ _ _, .dat .nil => some ⟨.dat (.bool (false != neg)), [], []⟩
  | some (.pointer _), .ptr _ _ _, .dat (.nul 0) => some ⟨.dat (.bool (false != neg)), [], []⟩
  | some (.pointer _), .dat (.fp _), .dat (.nul 0) => some ⟨.dat (.bool (false != neg)), [], []⟩
  | some (.map _ _), .map _ _, .dat (.nul 1) => some ⟨.dat (.bool (false != neg)), [], []⟩
  | _, _, _ => none
def beqT : List UInt8 → List UInt8 → Bool
  | [], [] => true
  | a :: r, b :: q => Nat.beq a.toNat b.toNat && beqT r q
  | _, _ => false
def evens : List U → List U
  | k :: _ :: r => k :: evens r
  | _ => []
def findS (s : List UInt8) : List U → Nat → Option (Option Nat)
  | [], _ => some none
  | .dat (.str x) :: _ :: r, i => if beqT s x.data.toList then some (some i) else findS s r (i + 1)
  | _, _ => none
def findK (kt : TypeId) (k : Value) (cells : List U) : Option (Option Nat) :=
  match (evens cells).mapM valU with
  | some ks => (pureSem P (Instr.findKey kt k (ks.map fun v => ⟨v, .bool false, 0⟩))).map fun r => r.map (·.1)
  | none => none
def findU (kt : TypeId) (k : Value) (cells : List U) : Option (Option Nat) :=
  match P.underlying kt, k with
  | some .string, .string s => findS s.data.toList cells 0
  | _, _ => findK P kt k cells
def keyOk (kt : TypeId) (k : Value) (empty : Bool) : Bool :=
  match P.underlying kt with
  | some .string => true
  | some (.int _) => true
  | _ => (pureSem P (Instr.checkKey empty 10000 kt k)).isSome
def opMakeMap (t : TypeId) : Option Res := some ⟨.map id 0, [], [(id, ⟨t, 0, false, 0, false, []⟩)]⟩
def zeroD (t : TypeId) : Option D :=
  match P.info? t with
  | some i => i.zero.bind constD
  | none => none
def opLookup (t : TypeId) (ok : Bool) (x ix : U) : Option Res :=
  match P.underlying t, x, valU ix with
  | some (.map kt et), .map o gn, some k =>
    match g o with
    | some ob =>
      if ob.gen = gn ∧ ob.esz = 0 ∧ keyOk P kt k ob.cells.isEmpty = true then
        match findU P kt k ob.cells with
        | some (some i) => (ob.cells[2 * i + 1]?).map fun u => ⟨if ok then .tup [u, .dat (.bool true)] else u, [o], []⟩
        | some none => (zeroD P et).map fun z => ⟨if ok then .tup [.dat z, .dat (.bool false)] else .dat z, [o], []⟩
        | none => none
      else none
    | none => none
  | _, _, _ => none
def opMapUpdate (t : TypeId) (m k x : U) : Option Res :=
  match P.underlying t, m, valU k with
  | some (.map kt _), .map o gn, some kv =>
    match g o with
    | some ob =>
      if ob.gen = gn ∧ ob.esz = 0 ∧ keyOk P kt kv false = true then
        match findU P kt kv ob.cells with
        | some (some i) =>
          match (ob.cells[2 * i]?).bind valU with
          | some old => if Instr.sameBits 10000 old kv then some ⟨.undef, [o], [(o, { ob with cells := (ob.cells.set (2 * i) k).set (2 * i + 1) x })]⟩ else none
          | none => none
        | some none => some ⟨.undef, [o], [(o, { ob with cells := ob.cells ++ [k, x] })]⟩
        | none => none
      else none
    | none => none
  | _, _, _ => none
def opLenG (t : TypeId) (u : U) : Option Res :=
  match u with
  | .map o gn =>
    match P.underlying t, g o with
    | some (.map _ _), some ob => if ob.gen = gn ∧ ob.esz = 0 then some ⟨.dat (.int .i64 (ob.cells.length / 2 : Nat)), [o], []⟩ else none
    | _, _ => none
  | u => opLen P t u
def bytesOfD : List D → Option (List UInt8)
  | [] => some []
  | .int .u8 n :: r => (bytesOfD r).map (UInt8.ofNat n.toNat :: ·)
  | _ => none
def runesD (s : ByteArray) : List D := (Conv.runesFrom s s.size 0 #[]).toList.map fun v => (const1 v).getD .nil
def runesOfD : List D → Option (List Int)
  | [] => some []
  | .int .i32 n :: r => (runesOfD r).map (n :: ·)
  | _ => none
def encAll (ns : List Int) : ByteArray := ns.foldl (fun s n => s ++ Utf8.encode n) ByteArray.empty
def opConvert (src dst : TypeId) (u : U) : Option Res :=
  match P.underlying src, P.underlying dst with
  | some .string, some (.slice e) =>
    match P.underlying e, u with
    | some (.int .u8), .dat (.str s) => some ⟨.dat (.lst (s.data.toList.map fun b => .int .u8 b.toNat)), [], []⟩
    | some (.int .i32), .dat (.str s) => if s.size ≤ 70368744177664 then some ⟨.dat (.lst (runesD s)), [], []⟩ else none
    | _, _ => none
  | some (.slice e), some .string =>
    match P.underlying e with
    | some (.int .u8) =>
      match u with
      | .dat .nil => some ⟨.dat (.str ByteArray.empty), [], []⟩
      | .dat (.lst l) => (bytesOfD l).map fun b => ⟨.dat (.str ⟨b.toArray⟩), [], []⟩
      | .own o gn off n =>
        match g o with
        | some ob =>
          if ob.gen = gn ∧ ob.esz = 1 ∧ off + n ≤ ob.cells.length then
            ((((ob.cells.drop off).take n).mapM asDat).bind bytesOfD).map fun b => ⟨.dat (.str ⟨b.toArray⟩), [o], []⟩
          else none
        | none => none
      | _ => none
    | some (.int .i32) =>
      match u with
      | .dat (.lst l) => (runesOfD l).map fun ns => ⟨.dat (.str (encAll ns)), [], []⟩
      | _ => none
    | _ => none
  | some (.slice _), some (.slice e) =>
    match Nat.beq src dst, P.underlying e, u with
    | true, some (.int .u8), .own o gn off (n + 1) =>
      match g o with
      | some ob => if ob.gen = gn ∧ 0 < ob.esz then some ⟨.own o gn off (n + 1), [o], [(o, ob)]⟩ else none
      | none => none
    | _, _, _ => none
  | _, _ => none
def opClear (t : TypeId) (d : U) : Option Res :=
  match P.underlying t, d with
  | some (.slice e), .own o gn off n =>
    match g o, sizeT P e, zeroT P e with
    | some ob, some sz, some z =>
      if ob.gen = gn ∧ ob.esz = sz ∧ 0 < sz ∧ ob.snap = false ∧ z.length = sz ∧ (off + n) * sz ≤ ob.cells.length then
        some ⟨.undef, [o], [(o, { ob with cells := splice ob.cells (off * sz) (repeatD z n) })]⟩
      else none
    | _, _, _ => none
  | _, _ => none
def lenU : U → Option Nat
  | .dat .nil => some 0
  | .dat (.lst l) => some l.length
  | .dat (.str s) => some s.size
  | .own _ _ _ n => some n
  | _ => none
def isTextU : U → Bool
  | .dat (.str _) => true
  | _ => false
def takeU (c : Nat) : U → U
  | .dat (.lst l) => .dat (.lst (l.take c))
  | .dat (.str s) => .dat (.str (s.extract 0 c))
  | .own o g off _ => .own o g off c
  | u => u
def opCopy (t tx : TypeId) (d s : U) : Option Res :=
  if isRowT P tx && !isTextU d then
    match P.underlying t, lenU d, lenU s with
    | some (.slice e), some n, some m =>
      match sizeT P e with
      | some sz =>
        if min m n = 0 then some ⟨.dat (.int .i64 0), [], []⟩
        else
          match d with
          | .own o gn off _ =>
            match g o, srcCells g sz (takeU (min m n) s) with
            | some ob, some (xs, c, rd) =>
              if ob.gen = gn ∧ ob.esz = sz ∧ 0 < sz ∧ ob.snap = false ∧ c = min m n ∧ off * sz + xs.length ≤ ob.cells.length then
                some ⟨.dat (.int .i64 (min m n)), o :: rd, [(o, { ob with cells := splice ob.cells (off * sz) xs })]⟩
              else none
            | _, _ => none
          | _ => none
      | none => none
    | _, _, _ => none
  else none
end ops
def opStep (P : Program) (g : Nat → Option Obj) (id : Nat) (tm : List U) (o : Oper) : Option Res :=
  match o.op with
  | .move x | .assign x => (evalU tm x).map fun u => ⟨u, [], []⟩
  | .pick c a b =>
    match evalU tm c with
    | some (.dat (.bool true)) => (evalU tm a).map fun u => ⟨u, [], []⟩
    | some (.dat (.bool false)) => (evalU tm b).map fun u => ⟨u, [], []⟩
    | _ => none
  | .alloc t => (zeroT P t).bind fun z => opAlloc P id t (z.map .dat)
  | .box t x => (evalU tm x).bind fun u => opAlloc P id t u.cells
  | .build t ps => opBuild P tm t ps
  | .buildSlice t n ps => opBuildSlice P id tm t n ps
  | .load t a => (evalU tm a).bind (opLoad P g t)
  | .store t a x => (evalU tm a).bind fun u => (evalU tm x).bind (opStore P g t u)
  | .nilCheck x =>
    match evalU tm x with
    | some (.ptr a b c) => some ⟨.ptr a b c, [], []⟩
    | some (.dat (.fp cs)) => some ⟨.dat (.fp cs), [], []⟩
    | some (.dat (.fn f cs)) => some ⟨.dat (.fn f cs), [], []⟩
    | some (.fn f cs) => some ⟨.fn f cs, [], []⟩
    | _ => none
  | .fieldAddr s x f => (evalU tm x).bind (opFieldAddr P s f)
  | .field t x f => (evalU tm x).bind (opField P t f)
  | .indexAddr t x i => (evalU tm x).bind fun u => (evalU tm i).bind (opIndexAddr P g t u)
  | .index t x i =>
    match opPure P tm o with
    | some r => some r
    | none => (evalU tm x).bind fun u => (evalU tm i).bind (opIndex P t u)
  | .slice t x lo hi mx =>
    match opPure P tm o with
    | some r => some r
    | none => (evalU tm x).bind fun u => opSlice P g tm t u lo hi mx
  | .extract x i =>
    match evalU tm x with
    | some (.tup l) => (l[i]?).map fun u => ⟨u, [], []⟩
    | _ => none
  | .makeFunc (.func f) first caps => if first.isEmpty then (caps.toList.mapM (evalU tm)).map fun l => ⟨.fn f l, [], []⟩ else none
  | .makeSlice t l c => (evalU tm l).bind fun u => (evalU tm c).bind (opMakeSlice P id t u)
  | .makeMap t none => opMakeMap id t
  | .lookup t x i ok =>
    match opPure P tm o with
    | some r => some r
    | none => (evalU tm x).bind fun u => (evalU tm i).bind (opLookup P g t ok u)
  | .mapUpdate t m k x => (evalU tm m).bind fun u => (evalU tm k).bind fun v => (evalU tm x).bind (opMapUpdate P g t u v)
  | .insert t m k x => (evalU tm m).bind fun u => (evalU tm k).bind fun v => (evalU tm x).bind (opMapUpdate P g t u v)
  | .binOp .eql t x y _ =>
    match opPure P tm o with
    | some r => some r
    | none => (evalU tm x).bind fun u => (evalU tm y).bind (opEql P t false u)
  | .binOp .neq t x y _ =>
    match opPure P tm o with
    | some r => some r
    | none => (evalU tm x).bind fun u => (evalU tm y).bind (opEql P t true u)
  | .convert s d x =>
    match opPure P tm o with
    | some r => some r
    | none => (evalU tm x).bind (opConvert P g s d)
  | .call c =>
    match c.callee, c.args.toList, c.argTypes.toList with
    | .builtin .append, [s, x], [t, tx] => (evalU tm s).bind fun u => (evalU tm x).bind (opAppend P g id t tx u)
    | .builtin .len, [x], [t] =>
      match opPure P tm o with
      | some r => some r
      | none => (evalU tm x).bind (opLenG P g t)
    | .builtin .clear, [d], [t] => (evalU tm d).bind (opClear P g t)
    | .builtin .copy, [d, s], [t, tx] => (evalU tm d).bind fun u => (evalU tm s).bind (opCopy P g t tx u)
    | _, _, _ => opPure P tm o
  | _ => opPure P tm o
inductive X where
  | normal
  | exit (id : Nat)
  | ret
  deriving DecidableEq
def setK {β : Type} (l : List U) (i : Nat) (u : U) (k : List U → β) : β :=
  match l, i with
  | [], _ => k []
  | _ :: r, 0 => k (u :: r)
  | a :: r, i + 1 => setK r i u fun r => k (a :: r)
theorem setK_eq {β : Type} : ∀ (l : List U) (i : Nat) (u : U) (k : List U → β), setK l i u k = k (l.set i u)
  | [], i, u, k => by simp only [setK, List.set_nil]
  | a :: r, 0, u, k => by simp only [setK, List.set_cons_zero]
  | a :: r, i + 1, u, k => by simp only [setK, setK_eq r i u, List.set_cons_succ]
def put (tm : List U) : Option Tmp → U → List U
  | some t, u => tm.set t u
  | none, _ => tm
def putK {β : Type} (tm : List U) (d : Option Tmp) (u : U) (k : List U → β) : β :=
  match d with
  | some t => setK tm t u k
  | none => k tm
theorem putK_eq {β : Type} (tm : List U) (d : Option Tmp) (u : U) (k : List U → β) : putK tm d u k = k (put tm d u) := by cases d <;> simp only [putK, put, setK_eq]
def storeK {β : Type} (st : Store) (up : List (Nat × Obj)) (k : Store → β) : β :=
  match up with
  | [] => k st
  | p :: r => forceL (setAll st (p :: r)) k
theorem storeK_eq {β : Type} (st : Store) (up : List (Nat × Obj)) (k : Store → β) : storeK st up k = k (setAll st up) := by
  cases up with
  | nil => rfl
  | cons p r => simp only [storeK, forceL_eq]
def wantedU (ops : Array Oper) (tm : List U) (o : Oper) : Option Bool :=
  match o.guard with
  | none => some true
  | some (j, b) =>
    match ((ops[j]?).bind (·.dst)).bind (tm[·]?) with
    | some (.dat (.bool c)) => some (c == b)
    | some .undef => some false
    | _ => none
structure CallRes where
  res : Res
  nx : Nat
  cl : Bool
def forceRes {β : Type} (r : Res) (k : Res → β) : β :=
  match r with
  | ⟨u, rd, up⟩ => forceU u fun u => forceNs rd fun rd => forceUp up fun up => k ⟨u, rd, up⟩
def forceCR {β : Type} (r : CallRes) (k : CallRes → β) : β :=
  match r with
  | ⟨res, nx, cl⟩ => forceRes res fun res => forceN nx fun nx => forceB cl fun cl => k ⟨res, nx, cl⟩
def forceDN {β : Type} (l : List (D × List Nat)) (k : List (D × List Nat) → β) : β :=
  match l with
  | [] => k []
  | (d, s) :: r => forceD d fun d => forceNs s fun s => forceDN r fun r => k ((d, s) :: r)
def forceUN {β : Type} (l : List (U × List Nat)) (k : List (U × List Nat) → β) : β :=
  match l with
  | [] => k []
  | (u, s) :: r =>
    match u with
    | .dat d => forceD d fun d => forceNs s fun s => forceUN r fun r => k ((.dat d, s) :: r)
    | u => forceU u fun u => forceNs s fun s => forceUN r fun r => k ((u, s) :: r)
theorem forceRes_eq {β : Type} (r : Res) (k : Res → β) : forceRes r k = k r := by cases r; simp only [forceRes, forceU_eq, forceNs_eq, forceUp_eq]
theorem forceCR_eq {β : Type} (r : CallRes) (k : CallRes → β) : forceCR r k = k r := by cases r; simp only [forceCR, forceRes_eq, forceN_eq, forceB_eq]
theorem forceDN_eq {β : Type} : ∀ (l : List (D × List Nat)) (k : List (D × List Nat) → β), forceDN l k = k l
  | [], k => rfl
  | (d, s) :: r, k => by simp only [forceDN, forceD_eq, forceNs_eq, forceDN_eq r]
theorem forceUN_eq {β : Type} : ∀ (l : List (U × List Nat)) (k : List (U × List Nat) → β), forceUN l k = k l
  | [], k => rfl
  | (u, s) :: r, k => by cases u <;> simp only [forceUN, forceD_eq, forceU_eq, forceNs_eq, forceUN_eq r]
def forceT {β : Type} (u : U) (k : U → β) : β :=
  match u with
  | .dat (.str s) => forceS s fun s => k (.dat (.str s))
  | u => k u
theorem forceT_eq {β : Type} (u : U) (k : U → β) : forceT u k = k u := by
  unfold forceT
  split
  · rw [forceS_eq]
  · rfl
def bitsOf (acc : List Nat) (l : List Edge) : Nat :=
  match l with
  | [] => 0
  | e :: r => if Region.binds .any e && decide (e.on < acc.length) then (2 ^ e.on ||| acc.getD e.on 0) ||| bitsOf acc r else bitsOf acc r
def befsFrom (acc : List Nat) : List Oper → List Nat
  | [] => acc
  | o :: l => forceN (bitsOf acc o.after.toList) fun n => forceL (acc ++ [n]) fun acc => befsFrom acc l
def befs (ops : List Oper) : List Nat := befsFrom [] ops
def ahead (ops : Array Oper) (i j : Nat) : Bool := ((befs ops.toList).getD j 0).testBit i
def looks (ops : Array Oper) (o : Oper) : List Nat :=
  (o.op.operands.toList.filterMap fun | .tmp t => some t | _ => none) ++
  (match o.guard with
   | some (j, _) => ((ops[j]?).bind (·.dst)).toList
   | none => [])
def disj (a b : List Nat) : Bool := a.all fun x => !b.contains x
def dupOf (seen dup : Nat) : List Oper → Nat
  | [] => dup
  | o :: l =>
    match o.dst with
    | none => dupOf seen dup l
    | some d => if seen.testBit d then forceN (dup ||| 2 ^ d) fun dup => dupOf seen dup l else forceN (seen ||| 2 ^ d) fun seen => dupOf seen dup l
def guardsOk (ops : Array Oper) : Bool :=
  forceN (dupOf 0 0 ops.toList) fun m => m == 0 || ops.toList.all fun o =>
    match o.guard with
    | some (g, _) =>
      match (ops[g]?).bind (·.dst) with
      | some d => !m.testBit d
      | none => true
    | none => true
def quiet : Option CallRes → Bool
  | some r => r.res.up.isEmpty && r.res.rd.isEmpty && !r.cl
  | none => true
def acts : List (Option CallRes) → Nat → List (Nat × CallRes)
  | [], _ => []
  | some r :: l, i => if quiet (some r) then acts l (i + 1) else (i, r) :: acts l (i + 1)
  | none :: l, i => acts l (i + 1)
def memApart (a b : CallRes) : Bool :=
  disj (a.res.up.map (·.1)) b.res.rd && disj (a.res.up.map (·.1)) (b.res.up.map (·.1)) && disj a.res.rd (b.res.up.map (·.1)) && !(a.cl && b.cl)
def actsOk (ops : Array Oper) (l : List (Nat × CallRes)) : Bool :=
  (l.all fun a => a.2.res.up.isEmpty && !a.2.cl) ||
  l.all fun b => l.all fun a => !(decide (a.1 < b.1)) || memApart a.2 b.2 || ahead ops a.1 b.1
def regionOk (ops : Array Oper) (rs : List (Option CallRes)) : Bool :=
  guardsOk ops && forceL (acts rs 0) fun l => actsOk ops l
def snapAll (g : Nat → Option Obj) (ids : List Nat) : List (Nat × Obj) := ids.filterMap fun o => (g o).map fun ob => (o, { ob with snap := true })
def subStore (g : Nat → Option Obj) (ids : List Nat) : Store := ids.filterMap fun o => (g o).map fun ob => (o, ob)
def asUp (s : Store) : List (Nat × Obj) := subStore (getO s) (s.map (·.1))
def bring (st : Store) (ow : Bool) (id : Nat) (u : U) : Option (U × List (Nat × Obj)) :=
  match ow, u with
  | true, .own o gn 0 n =>
    match getO st o with
    | some ob =>
      if ob.gen = gn ∧ 0 < ob.esz ∧ n * ob.esz = ob.cells.length then
        match ob.cells.mapM (toD (getO st) 40) with
        | some ds => forceDN ds fun ds => some (.own id 0 0 n, [(id, { ob with gen := 0, snap := ob.snap || (ds.flatMap (·.2)).contains o, cells := ds.map fun d => .dat d.1 })])
        | none => none
      else none
    | none => none
  | _, u =>
    match toD (getO st) 40 u with
    | some d => forceD d.1 fun e => some (.dat e, [])
    | none => none
def bringAll (st : Store) (ow : Bool) (id : Nat) : List U → Option (List U × List (Nat × Obj))
  | [] => some ([], [])
  | u :: r =>
    match bring st ow id u, r.mapM (toD (getO st) 40) with
    | some (v, a), some l => forceDN l fun l => some (v :: l.map (fun d => .dat d.1), a.map fun p => (p.1, { p.2 with snap := true }))
    | _, _ => none
def resD : List D → U
  | [d] => .dat d
  | l => .tup (l.map .dat)
def targetU : U → Option (Nat × List U)
  | .dat (.fn f cs) => some (f, cs.map .dat)
  | .fn f cs => some (f, cs)
  | _ => none
def isPtr : U → Bool
  | .ptr _ _ _ => true
  | .map _ _ => true
  | _ => false
def argIo (g : Nat → Option Obj) (io : Bool) (u : U) : Option (U × List Nat) :=
  if isPtr u || io then some (u, []) else (toD g 40 u).map fun d => (.dat d.1, d.2)
def orcU (an : An) (tm : List U) (o : Oper) : Option D :=
  match an.orc o.op with
  | none => none
  | some t => (o.op.operands.toList.mapM fun x => (evalU tm x).bind asDat).bind t
def grB (st : Store) (nx : Nat) (st' : Store) (nx' : Nat) : Bool :=
  Nat.ble nx nx' && st.all (fun p => (getO st' p.1).isSome) && st'.all fun p => (getO st p.1).isSome || (Nat.ble nx p.1 && Nat.ble (p.1 + 1) nx')
mutual
def pcall (P : Program) (an : An) : Nat → Nat → List U → Store → Nat → Option (U × Store × Nat)
  | 0, _, _, _, _ => none
  | k + 1, f, us, st, nx =>
    match an.call f us st nx with
    | some (u, st', nx') => if grB st nx st' nx' then some (u, st', nx') else none
    | none =>
    match P.funcs[f]? with
    | none => none
    | some fn =>
      match fn.body with
      | none => none
      | some c =>
        match forceL (us ++ List.replicate (fn.ntmps - us.length) .undef) fun tm => exec P an k c ⟨tm, st, nx⟩ with
        | some (x, s) =>
          if x = .normal ∨ x = .ret then
            match fn.results.toList.mapM (fun r => match r with
              | .tmp t => s.tm[t]?
              | .cell a t => (s.tm[a]?).bind fun u => (opLoad P (getO s.st) t u).map (·.u)) with
            | some [u] => some (u, s.st, s.nx)
            | some l => some (.tup l, s.st, s.nx)
            | none => none
          else none
        | none => none
def docall (P : Program) (an : An) : Nat → Nat → Nat → List U → (Nat → Option Obj) → Nat → Option CallRes
  | 0, _, _, _, _, _ => none
  | k + 1, id, f, us, g, nx =>
    if us.any isPtr || an.io f || an.ior f then
      match us.mapM (argIo g (an.io f)) with
      | none => none
      | some vs => forceUN vs fun vs => forceNs (vs.flatMap (·.2)) fun sids => forceUp (snapAll g sids) fun sn =>
        forceNs (reach (updF g sn) 400 (refsL (vs.map (·.1))) []) fun ids =>
        if closed (updF g sn) ids && (refsL (vs.map (·.1))).all (fun x => ids.contains x) then
          match forceUp (subStore (updF g sn) ids) fun sub => forceL (vs.map (·.1)) fun us => pcall P an k f us sub nx with
          | some (u, st', nx') => some ⟨⟨u, ids ++ sids, sn ++ asUp st'⟩, nx', true⟩
          | none => none
        else none
    else
      match us.mapM (toD g 40) with
      | none => none
      | some ds => forceDN ds fun ds =>
        match an.spec f (ds.map (·.1)) with
        | some rs => some ⟨⟨resD rs, ds.flatMap (·.2), snapAll g (ds.flatMap (·.2))⟩, nx, false⟩
        | none =>
        match forceL (ds.map fun d => U.dat d.1) fun us => pcall P an k f us [] 0 with
        | some (u, st', _) =>
          match u with
          | .tup l => (bringAll st' (an.ownRes f) id l).map fun r => ⟨⟨.tup r.1, ds.flatMap (·.2), snapAll g (ds.flatMap (·.2)) ++ r.2⟩, nx, false⟩
          | u => (bring st' (an.ownRes f) id u).map fun r => ⟨⟨r.1, ds.flatMap (·.2), snapAll g (ds.flatMap (·.2)) ++ r.2⟩, nx, false⟩
        | none => none
def oper (P : Program) (an : An) : Nat → Nat → Oper → List U → (Nat → Option Obj) → Nat → Option CallRes
  | 0, _, _, _, _, _ => none
  | k + 1, id, o, tm, g, nx =>
    match orcU an tm o with
    | some d => some ⟨⟨.dat d, [], []⟩, nx, false⟩
    | none =>
    match opStep P g id tm o with
    | some r => some ⟨r, nx, false⟩
    | none =>
      match o.op with
      | .call c =>
        match c.callee with
        | .value f =>
          match (evalU tm f).bind targetU, c.args.toList.mapM (evalU tm) with
          | some (n, caps), some us => docall P an k id n (us ++ caps) g nx
          | _, _ => none
        | _ => none
      | _ => none
def opers (P : Program) (an : An) : Nat → Array Oper → Nat → List Oper → Nat → St → List (Option CallRes) → Option (St × List (Option CallRes))
  | 0, _, _, _, _, _, _ => none
  | _ + 1, _, _, [], _, s, rs => some (s, rs)
  | k + 1, ops, base, o :: rest, i, s, rs =>
    match wantedU ops s.tm o with
    | some true =>
      match forceN (base + 8 * i) fun id => oper P an k id o s.tm (getO s.st) s.nx with
      | some r => forceCR r fun r => forceT r.res.u fun u => putK s.tm o.dst u fun tm => storeK s.st r.res.up fun st =>
        opers P an k ops base rest (i + 1) ⟨tm, st, r.nx⟩ (rs ++ [some r])
      | none => none
    | some false => putK s.tm o.dst .undef fun tm => opers P an k ops base rest (i + 1) ⟨tm, s.st, s.nx⟩ (rs ++ [none])
    | none => none
def exec (P : Program) (an : An) : Nat → Code → St → Option (X × St)
  | 0, _, _ => none
  | k + 1, c, s =>
    match c with
    | .skip => some (.normal, s)
    | .seq a b =>
      match exec P an k a s with
      | some (.normal, s1) => exec P an k b s1
      | r => r
    | .cond x a b =>
      match evalU s.tm x with
      | some (.dat (.bool t)) => if t then exec P an k a s else exec P an k b s
      | _ => none
    | .block id b =>
      match exec P an k b s with
      | some (.exit j, s1) => if j = id then some (.normal, s1) else some (.exit j, s1)
      | r => r
    | .loop b =>
      match exec P an k b s with
      | some (.normal, s1) => exec P an k (.loop b) s1
      | r => r
    | .exit id => some (.exit id, s)
    | .ret => some (.ret, s)
    | .region _ ops draw =>
      match forceN s.nx fun base => forceN (s.nx + 8 * ops.size) fun nx => opers P an k ops base ops.toList 0 { s with nx := nx } [] with
      | some (s1, rs) => if !draw || regionOk ops rs then some (.normal, s1) else none
      | none => none
    | _ => none
end
def beqI : Int → Int → Bool
  | .ofNat a, .ofNat b => Nat.beq a b
  | .negSucc a, .negSucc b => Nat.beq a b
  | _, _ => false
def beqB : List UInt8 → List UInt8 → Bool
  | [], [] => true
  | a :: r, b :: q => Nat.beq a.toNat b.toNat && beqB r q
  | _, _ => false
def beqK : IntKind → IntKind → Bool
  | .i8, .i8 | .i16, .i16 | .i32, .i32 | .i64, .i64 | .u8, .u8 | .u16, .u16 | .u32, .u32 | .u64, .u64 => true
  | _, _ => false
def beqO : Bool → Bool → Bool
  | true, true | false, false => true
  | _, _ => false
mutual
def beqD : D → D → Bool
  | .int k a, .int j b => beqK k j && beqI a b
  | .bool a, .bool b => beqO a b
  | .str a, .str b => beqB a.data.toList b.data.toList
  | .nil, .nil => true
  | .lst a, .lst b => beqDs a b
  | .agg a, .agg b => beqDs a b
  | .fp a, .fp b => beqDs a b
  | .fn f a, .fn g b => Nat.beq f g && beqDs a b
  | .nul a, .nul b => Nat.beq a b
  | .sym a, .sym b => Nat.beq a b
  | _, _ => false
def beqDs : List D → List D → Bool
  | [], [] => true
  | a :: r, b :: q => beqD a b && beqDs r q
  | _, _ => false
end
def txt (l : List Nat) : D := .str ⟨⟨l.map UInt8.ofNat⟩⟩
abbrev Tbl := List (Nat × List (List D × List D))
end Go.Proofs.Ytjofhegodknmaaa.V
