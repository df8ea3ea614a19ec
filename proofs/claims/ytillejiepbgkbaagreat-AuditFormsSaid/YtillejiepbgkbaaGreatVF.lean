/- V, quickly: the same evaluator for the kernel's sake: slots as a tree, operations that were looked up ahead. -/
import Derived.Test.YtillejiepbgkbaaGreatVE
import Derived.Test.YtillejiepbgkbaaGreatVC
set_option linter.unusedSimpArgs false
set_option linter.unusedVariables false
namespace Go.Proofs.YtillejiepbgkbaaGreat.V
open Go Go.RowKit

/-- Slots. -/
inductive T where
  | leaf (u : U)
  | node (a b : T)
  | emp
/-- The way to a slot. -/
inductive Pth where
  | z
  | l (p : Pth)
  | r (p : Pth)
section tree
variable {β : Type}
noncomputable def T.get (p : Pth) : T → U :=
  Pth.rec (motive := fun _ => T → U) (fun t => T.casesOn (motive := fun _ => U) t (fun u => u) (fun _ _ => .undef) .undef)
    (fun _ ih t => T.casesOn (motive := fun _ => U) t (fun _ => .undef) (fun a _ => ih a) .undef) (fun _ ih t => T.casesOn (motive := fun _ => U) t (fun _ => .undef) (fun _ b => ih b) .undef) p
noncomputable def T.setK (u : U) (p : Pth) : T → (T → β) → β :=
  Pth.rec (motive := fun _ => T → (T → β) → β) (fun _ k => k (.leaf u))
    (fun _ ih t k => T.casesOn (motive := fun _ => β) t (fun v => k (.leaf v)) (fun a b => ih a fun a' => k (.node a' b)) (k .emp))
    (fun _ ih t k => T.casesOn (motive := fun _ => β) t (fun v => k (.leaf v)) (fun a b => ih b fun b' => k (.node a b')) (k .emp)) p
noncomputable def T.toA (t : T) : List U → List U := T.rec (motive := fun _ => List U → List U) (fun u acc => u :: acc) (fun _ _ ia ib acc => ia (ib acc)) (fun acc => acc) t
noncomputable def T.toL (t : T) : List U := t.toA []
/-- the outside alone is made anew -/
def fu (u : U) (k : U → β) : β :=
  match u with
  | .dat d => k (.dat d)
  | .ptr o g p => k (.ptr o g p)
  | .own o g a n => k (.own o g a n)
  | .agg l => k (.agg l)
  | .tup l => k (.tup l)
  | .fn f l => k (.fn f l)
  | .undef => k .undef
  | .junk => k .junk
  | .map o g => k (.map o g)
noncomputable def nth {α : Type} (l : List α) (i : Nat) : Option α :=
  List.rec (motive := fun _ => Nat → Option α) (fun _ => none) (fun a _ ih i => Nat.rec (motive := fun _ => Option α) (some a) (fun i _ => ih i) i) l i
/-- a cell is set -/
noncomputable def setN (l : List U) (i : Nat) (u : U) (k : List U → β) (e : β) : β :=
  List.rec (motive := fun _ => Nat → (List U → β) → β) (fun _ _ => e) (fun a r ih i k => Nat.rec (motive := fun _ => β) (k (u :: r)) (fun i _ => ih i fun r' => k (a :: r')) i) l i k
/-- so many cells from a place on, as data -/
noncomputable def takeD (n : Nat) (l : List U) (k : List D → β) (e : β) : β :=
  Nat.rec (motive := fun _ => List U → (List D → β) → β) (fun _ k => k [])
    (fun _ ih l k => List.casesOn (motive := fun _ => β) l e fun u r => match u with | .dat d => ih r fun ds => k (d :: ds) | _ => e) n l k
noncomputable def dropR (n : Nat) (l : List U) : List U :=
  Nat.rec (motive := fun _ => List U → List U) (fun l => l) (fun _ ih l => List.casesOn (motive := fun _ => List U) l [] fun _ r => ih r) n l
/-- data over cells, from a place on -/
noncomputable def overD (ds : List D) (l : List U) (k : List U → β) (e : β) : β :=
  List.rec (motive := fun _ => List U → (List U → β) → β) (fun l k => k l)
    (fun d _ ih l k => List.casesOn (motive := fun _ => β) l e fun _ r => ih r fun r' => k (.dat d :: r')) ds l k
noncomputable def atN (p : Nat) (l : List U) (f : List U → (List U → β) → β) (k : List U → β) (e : β) : β :=
  Nat.rec (motive := fun _ => List U → (List U → β) → β) (fun l k => f l k) (fun _ ih l k => List.casesOn (motive := fun _ => β) l e fun a r => ih r fun r' => k (a :: r')) p l k
noncomputable def datsK (n : Nat) (ds : List D) (k : List U → β) (e : β) : β :=
  Nat.rec (motive := fun _ => List D → (List U → β) → β) (fun ds k => List.casesOn (motive := fun _ => β) ds (k []) fun _ _ => e)
    (fun _ ih ds k => List.casesOn (motive := fun _ => β) ds e fun d r => match d with | .agg _ => e | d => ih r fun r' => k (.dat d :: r')) n ds k
noncomputable def getF (s : Store) (o : Nat) : Option Obj :=
  List.rec (motive := fun _ => Option Obj) none (fun p _ ih => Prod.casesOn (motive := fun _ => Option Obj) p fun o' e => bif Nat.beq o' o then some e else ih) s
noncomputable def setF (s : Store) (o : Nat) (e : Obj) (k : Store → β) : β :=
  List.rec (motive := fun _ => (Store → β) → β) (fun k => k [(o, e)]) (fun p r ih k => Prod.casesOn (motive := fun _ => β) p fun o' e' => bif Nat.beq o' o then k ((o, e) :: r) else ih fun r' => k ((o', e') :: r')) s k
noncomputable def setAllF (up : List (Nat × Obj)) (s : Store) (k : Store → β) : β :=
  List.rec (motive := fun _ => Store → (Store → β) → β) (fun s k => k s) (fun p _ ih s k => Prod.casesOn (motive := fun _ => β) p fun o e => setF s o e fun s' => ih s' k) up s k
end tree

/-- Operands. -/
inductive A where
  | s (p : Pth)
  | c (u : U)
noncomputable def A.ev (a : A) (t : T) : U := A.casesOn (motive := fun _ => U) a (fun p => t.get p) fun u => u
/-- Operations, looked up ahead. -/
inductive M where
  | gen
  | mv (x : A)
  | nilc (x : A)
  | fadr (off : Nat) (x : A)
  | load (n : Nat) (ag : Bool) (x : A)
  | store (n : Nat) (a x : A)
  | box (ty n : Nat) (ag : Bool) (x : A)
  | alloc (ty n : Nat) (ag : Bool) (z : List U)
  | cmp (op : BinOp) (x y : A)
  | ari (op : BinOp) (x y : A)
  | seq (neg : Bool) (x y : A)
  | notB (x : A)
  | ext (x : A) (i : Nat)
  | pick (c x y : A)
  | len (x : A)
  | slen (x : A)
  | idx (sz : Nat) (x i : A)
  | sidx (x i : A)
  | fld (off n : Nat) (ag : Bool) (x : A)
  | call (f : Nat) (args : List A)
structure MO where
  m : M
  dst : Option Pth
  gd : Option (Pth × Bool)
/-! Short words. -/
def gn (d : Pth) : MO := ⟨.gen, some d, none⟩
def gN : MO := ⟨.gen, none, none⟩
def mv (x d : Pth) : MO := ⟨.mv (.s x), some d, none⟩
def mc (u : D) (d : Pth) : MO := ⟨.mv (.c (.dat u)), some d, none⟩
def nc (x d : Pth) : MO := ⟨.nilc (.s x), some d, none⟩
def fa (n : Nat) (x d : Pth) : MO := ⟨.fadr n (.s x), some d, none⟩
def l1 (x d : Pth) : MO := ⟨.load 1 false (.s x), some d, none⟩
def la (n : Nat) (x d : Pth) : MO := ⟨.load n true (.s x), some d, none⟩
def so (n : Nat) (x y : Pth) : MO := ⟨.store n (.s x) (.s y), none, none⟩
def ex (x : Pth) (i : Nat) (d : Pth) : MO := ⟨.ext (.s x) i, some d, none⟩
def cc (op : BinOp) (x : Pth) (k : IntKind) (n : Int) (d : Pth) : MO := ⟨.cmp op (.s x) (.c (.dat (.int k n))), some d, none⟩
def cp (op : BinOp) (x y d : Pth) : MO := ⟨.cmp op (.s x) (.s y), some d, none⟩
def pk (c x y d : Pth) : MO := ⟨.pick (.s c) (.s x) (.s y), some d, none⟩
def pb (c : Pth) (x : Pth) (y : Bool) (d : Pth) : MO := ⟨.pick (.s c) (.s x) (.c (.dat (.bool y))), some d, none⟩
def pa (c : Pth) (x : Bool) (y : Pth) (d : Pth) : MO := ⟨.pick (.s c) (.c (.dat (.bool x))) (.s y), some d, none⟩
def mo (m : M) (d : Pth) : MO := ⟨m, some d, none⟩
def if' (m : MO) (p : Pth) (b : Bool) : MO := ⟨m.m, m.dst, some (p, b)⟩
/-- Code. -/
inductive FC where
  | skip
  | seq (a b : FC)
  | cond (x : A) (ox : Operand) (a b : FC)
  | block (id : Nat) (b : FC)
  | loop (b : FC)
  | exit (id : Nat)
  | ret
  | reg (id : Nat) (ops : Array Oper) (draw : Bool) (l : List MO)
  /-- code that is not reached -/
  | gap (c : Code)
inductive RV where
  | tmp (p : Pth)
  | cell (p : Pth) (ty n : Nat) (ag : Bool)
structure FFun where
  n : Nat
  t0 : T
  ap : List Pth
  code : FC
  res : List RV
inductive TT where
  | e
  | leaf (f : Nat) (x : FFun)
  | node (m : Nat) (a b : TT)
noncomputable def TT.get (t : TT) (f : Nat) : Option FFun :=
  TT.rec (motive := fun _ => Option FFun) none (fun g x => bif Nat.beq g f then some x else none) (fun m _ _ ia ib => bif Nat.blt f m then ia else ib) t

noncomputable def aev (l : List A) (t : T) (k : List U → Option CallRes) : Option CallRes :=
  List.rec (motive := fun _ => (List U → Option CallRes) → Option CallRes) (fun k => k []) (fun a _ ih k => fu (a.ev t) fun u => ih fun us => k (u :: us)) l k

/-! Numbers. -/
def ltI (m n : Int) : Bool :=
  match m with
  | .ofNat a => match n with
    | .ofNat b => Nat.blt a b
    | .negSucc _ => false
  | .negSucc a => match n with
    | .ofNat _ => true
    | .negSucc b => Nat.blt b a
def eqI (m n : Int) : Bool :=
  match m with
  | .ofNat a => match n with
    | .ofNat b => Nat.beq a b
    | .negSucc _ => false
  | .negSucc a => match n with
    | .ofNat _ => false
    | .negSucc b => Nat.beq a b
def fcmp (op : BinOp) (m n : Int) : Option Bool :=
  match op with
  | .eql => some (eqI m n)
  | .neq => some (!eqI m n)
  | .lss => some (ltI m n)
  | .leq => some (!ltI n m)
  | .gtr => some (ltI n m)
  | .geq => some (!ltI m n)
  | _ => none
/-- small numbers of 64 bits -/
def fari (op : BinOp) (k : IntKind) (m n : Int) : Option Int :=
  match k with
  | .i64 =>
    match m with
    | .ofNat a =>
      match n with
      | .ofNat b =>
        match op with
        | .add => bif Nat.blt (Nat.add a b) 9223372036854775808 then some (.ofNat (Nat.add a b)) else ariI op k m n
        | .sub => bif Nat.ble b a && Nat.blt a 9223372036854775808 then some (.ofNat (Nat.sub a b)) else ariI op k m n
        | _ => ariI op k m n
      | _ => ariI op k m n
    | _ => ariI op k m n
  | _ => ariI op k m n

section ops
variable (P : Program) (g : Nat → Option Obj) (id : Nat)
noncomputable def fload (n : Nat) (ag : Bool) (u : U) : Option Res :=
  match u with
  | .ptr o gn p =>
    match g o with
    | some ob =>
      bif Nat.beq ob.gen gn && Nat.blt 0 ob.esz then
        (bif ag then (bif Nat.blt 0 n then takeD n (dropR p ob.cells) (fun ds => some ⟨.dat (.agg ds), [o], []⟩) none else none)
         else match nth ob.cells p with
          | some u => some ⟨u, [o], []⟩
          | none => none)
      else none
    | none => none
  | .dat (.fp cs) => bif ag then none else match cs with | d :: _ => some ⟨.dat d, [], []⟩ | [] => none
  | _ => none
noncomputable def fone (u : U) (k : Option Res) : Option Res :=
  match u with
  | .dat (.agg _) => none
  | .agg _ => none
  | .tup _ => none
  | .undef => none
  | .junk => none
  | _ => k
noncomputable def fstore (n : Nat) (a x : U) : Option Res :=
  match a with
  | .ptr o gn p =>
    match g o with
    | some ⟨ty, esz, ag, gen, snap, cells⟩ =>
      bif Nat.beq gen gn && Nat.blt 0 esz && !snap then
        match x with
        | .dat (.agg ds) => bif Nat.beq ds.length n then datsK n ds (fun _ => atN p cells (fun l k => overD ds l k none) (fun cells => some ⟨.undef, [o], [(o, ⟨ty, esz, ag, gen, snap, cells⟩)]⟩) none) none else none
        | x => bif Nat.beq n 1 then fone x (setN cells p x (fun cells => some ⟨.undef, [o], [(o, ⟨ty, esz, ag, gen, snap, cells⟩)]⟩) none) else none
      else none
    | none => none
  | _ => none
noncomputable def fbox (ty n : Nat) (ag : Bool) (x : U) : Option Res :=
  match x with
  | .dat (.agg ds) => datsK n ds (fun cells => some ⟨.ptr id 0 0, [], [(id, ⟨ty, n, ag, 0, false, cells⟩)]⟩) none
  | x => bif Nat.beq n 1 then fone x (some ⟨.ptr id 0 0, [], [(id, ⟨ty, n, ag, 0, false, [x]⟩)]⟩) else none
noncomputable def fidx (sz : Nat) (x ix : U) : Option Res :=
  match ix with
  | .dat (.int _ (.ofNat i)) =>
    match x with
    | .own o gn off n =>
      match g o with
      | some ob => bif Nat.beq ob.gen gn && Nat.beq sz ob.esz && Nat.blt 0 sz && Nat.blt i n then forceN (Nat.mul (Nat.add off i) sz) fun q => some ⟨.ptr o gn q, [o], []⟩ else none
      | none => none
    | .dat (.lst l) =>
      match nth l i with
      | some d => match d with
        | .agg cs => bif Nat.beq cs.length sz && Nat.blt 0 sz then some ⟨.dat (.fp cs), [], []⟩ else none
        | d => bif Nat.beq sz 1 then some ⟨.dat (.fp [d]), [], []⟩ else none
      | none => none
    | _ => none
  | _ => none
noncomputable def fop (t : T) (m : M) : Option Res :=
  match m with
  | .gen => none
  | .call _ _ => none
  | .mv x => some ⟨x.ev t, [], []⟩
  | .nilc x =>
    match x.ev t with
    | .ptr a b c => some ⟨.ptr a b c, [], []⟩
    | .dat (.fp cs) => some ⟨.dat (.fp cs), [], []⟩
    | _ => none
  | .fadr off x =>
    match x.ev t with
    | .ptr o gn p => forceN (Nat.add p off) fun q => some ⟨.ptr o gn q, [], []⟩
    | .dat (.fp cs) => forceL (cs.drop off) fun cs => some ⟨.dat (.fp cs), [], []⟩
    | _ => none
  | .load n ag x => fload g n ag (x.ev t)
  | .store n a x => fstore g n (a.ev t) (x.ev t)
  | .box ty n ag x => fbox id ty n ag (x.ev t)
  | .alloc ty n ag z => some ⟨.ptr id 0 0, [], [(id, ⟨ty, n, ag, 0, false, z⟩)]⟩
  | .cmp op x y =>
    match x.ev t with
    | .dat (.int k m) =>
      match y.ev t with
      | .dat (.int j n) => bif beqK k j then (match fcmp op m n with | some b => forceB b fun b => some ⟨.dat (.bool b), [], []⟩ | none => none) else none
      | _ => none
    | _ => none
  | .ari op x y =>
    match x.ev t with
    | .dat (.int k m) =>
      match y.ev t with
      | .dat (.int j n) => bif beqK k j then (match fari op k m n with | some r => forceI r fun r => some ⟨.dat (.int k r), [], []⟩ | none => none) else none
      | _ => none
    | _ => none
  | .seq neg x y =>
    match x.ev t with
    | .dat (.str a) =>
      match y.ev t with
      | .dat (.str b) => forceB (xor (beqT a.data.toList b.data.toList) neg) fun b => some ⟨.dat (.bool b), [], []⟩
      | _ => none
    | _ => none
  | .notB x =>
    match x.ev t with
    | .dat (.bool b) => forceB (!b) fun b => some ⟨.dat (.bool b), [], []⟩
    | _ => none
  | .ext x i =>
    match x.ev t with
    | .tup l => match nth l i with | some u => some ⟨u, [], []⟩ | none => none
    | _ => none
  | .pick c x y =>
    match c.ev t with
    | .dat (.bool b) => Bool.rec (some ⟨y.ev t, [], []⟩) (some ⟨x.ev t, [], []⟩) b
    | _ => none
  | .len x =>
    match x.ev t with
    | .dat (.lst l) => forceN l.length fun n => some ⟨.dat (.int .i64 n), [], []⟩
    | .own _ _ _ n => some ⟨.dat (.int .i64 n), [], []⟩
    | _ => none
  | .slen x =>
    match x.ev t with
    | .dat (.str s) => forceN s.data.toList.length fun n => some ⟨.dat (.int .i64 n), [], []⟩
    | _ => none
  | .idx sz x i => fidx g sz (x.ev t) (i.ev t)
  | .sidx x i =>
    match i.ev t with
    | .dat (.int _ (.ofNat i)) =>
      match x.ev t with
      | .dat (.str s) => match nth s.data.toList i with | some b => forceN b.toNat fun n => some ⟨.dat (.int .u8 n), [], []⟩ | none => none
      | _ => none
    | _ => none
  | .fld off n ag x =>
    match x.ev t with
    | .dat (.agg ds) =>
      bif ag then none else match nth ds off with | some d => some ⟨.dat d, [], []⟩ | none => none
    | _ => none
end ops

/-! What objects lead to. -/
noncomputable def refsR (l : List U) (k : List Nat) : List Nat :=
  List.rec (motive := fun _ => List Nat) k (fun u _ ih => match u with
    | .dat _ => ih
    | .ptr o _ _ => o :: ih
    | .own o _ _ _ => o :: ih
    | .map o _ => o :: ih
    | .undef => ih
    | .junk => ih
    | u => refs u ++ ih) l
noncomputable def hasR (o : Nat) (l : List Nat) : Bool := List.rec (motive := fun _ => Bool) false (fun a _ ih => bif Nat.beq o a then true else ih) l
noncomputable def reachR (g : Nat → Option Obj) (n : Nat) : List Nat → List Nat → List Nat :=
  Nat.rec (motive := fun _ => List Nat → List Nat → List Nat) (fun _ acc => acc)
    (fun _ ih todo acc => List.casesOn (motive := fun _ => List Nat) todo acc fun o todo =>
      bif hasR o acc then ih todo acc
      else match g o with
        | some ob => ih (refsR ob.cells todo) (o :: acc)
        | none => ih todo (o :: acc)) n
noncomputable def subR (l acc : List Nat) : Bool := List.rec (motive := fun _ => Bool) true (fun o _ ih => bif hasR o acc then ih else false) l
noncomputable def closedR (g : Nat → Option Obj) (ids l : List Nat) : Bool :=
  List.rec (motive := fun _ => Bool) true (fun o _ ih => match g o with
    | some ob => bif subR (refsR ob.cells []) ids then ih else false
    | none => ih) l
noncomputable def subSt {β : Type} (g : Nat → Option Obj) (l : List Nat) (k : Store → β) : β :=
  List.rec (motive := fun _ => (Store → β) → β) (fun k => k []) (fun o _ ih k => match g o with
    | some ob => ih fun r => k ((o, ob) :: r)
    | none => ih k) l k
noncomputable def keysR {β : Type} (s : Store) (k : List Nat → β) : β :=
  List.rec (motive := fun _ => (List Nat → β) → β) (fun k => k []) (fun p _ ih k => Prod.casesOn (motive := fun _ => β) p fun o _ => ih fun l => k (o :: l)) s k
/-- numbers of objects: all of the first are kept, new ones are new -/
noncomputable def grR (st : Store) (nx : Nat) (st' : Store) (nx' : Nat) : Bool :=
  bif Nat.ble nx nx' then
    keysR st fun ks => keysR st' fun ks' => bif subR ks ks' then
      List.rec (motive := fun _ => Bool) true (fun x _ ih => bif hasR x ks then ih else bif Nat.ble nx x then (bif Nat.blt x nx' then ih else false) else false) ks'
    else false
  else false
/-- pointers, maps and data alone -/
noncomputable def plainR (us : List U) : Bool :=
  List.rec (motive := fun _ => Bool) true (fun u _ ih => match u with
    | .dat _ => ih
    | .ptr _ _ _ => ih
    | .map _ _ => ih
    | _ => false) us
noncomputable def fcallobj (P : Program) (an : An) (id f : Nat) (us : List U) (g : Nat → Option Obj) (nx : Nat) : Option CallRes :=
  bif plainR us then
    forceNs (reachR g 400 (refsR us []) []) fun ids =>
    bif closedR g ids ids && subR (refsR us []) ids then
      subSt g ids fun sub =>
      match an.call f us sub nx with
      | some (u, st', nx') => bif grR sub nx st' nx' then keysR st' fun ks => subSt (getF st') ks fun up => some ⟨⟨u, ids, up⟩, nx', true⟩ else none
      | none => none
    else none
  else docall P an 3 id f us g nx

/-- all are data -/
noncomputable def allDat {β : Type} (us : List U) (k : List D → β) (e : β) : β :=
  List.rec (motive := fun _ => (List D → β) → β) (fun k => k []) (fun u _ ih k => match u with | .dat d => ih fun ds => k (d :: ds) | _ => e) us k
noncomputable def fcalldat (P : Program) (an : An) (id f : Nat) (us : List U) (g : Nat → Option Obj) (nx : Nat) : Option CallRes :=
  bif an.io f then fcallobj P an id f us g nx else
  allDat us (fun ds =>
    match an.spec f ds with
    | some rs => some ⟨⟨resD rs, [], []⟩, nx, false⟩
    | none =>
      match an.call f us [] 0 with
      | some (u, st', nx') =>
        bif grB [] 0 st' nx' then
          match u with
          | .dat d => some ⟨⟨.dat d, [], []⟩, nx, false⟩
          | .tup l => allDat l (fun _ => some ⟨⟨.tup l, [], []⟩, nx, false⟩) (docall P an 3 id f us g nx)
          | _ => docall P an 3 id f us g nx
        else none
      | none => none) (bif us.any isPtr then fcallobj P an id f us g nx else docall P an 3 id f us g nx)

noncomputable def fop1 (P : Program) (an : An) (o : Oper) (base i : Nat) (m : M) (t : T) (st : Store) (nx : Nat) : Option CallRes :=
  forceN (Nat.add base (Nat.mul 8 i)) fun id =>
  match m with
  | .gen => oper P an 5 id o t.toL (getF st) nx
  | .call f args => aev args t fun us => fcalldat P an id f us (getF st) nx
  | m =>
    match fop (getF st) id t m with
    | some r => some ⟨r, nx, false⟩
    | none => oper P an 5 id o t.toL (getF st) nx
/-- is it a name? then what is known of operations may speak of it -/
noncomputable def A.sym (a : A) (t : T) : Bool := match a.ev t with | .dat (.sym _) => true | _ => false

structure QS where
  t : T
  st : Store
  nx : Nat
noncomputable def dstK {β : Type} (d : Option Pth) (u : U) (t : T) (k : T → β) : β :=
  match d with
  | some p => T.setK u p t k
  | none => k t
/-- a region -/
noncomputable def fops (P : Program) (an : An) (ops : Array Oper) (base : Nat) (draw : Bool) (l : List MO) : Nat → T → Store → Nat → List (Option CallRes) → Option (QS × List (Option CallRes)) :=
  List.rec (motive := fun _ => Nat → T → Store → Nat → List (Option CallRes) → Option (QS × List (Option CallRes)))
    (fun _ t st nx rs => some (⟨t, st, nx⟩, rs))
    (fun mo _ ih i t st nx rs =>
      MO.casesOn (motive := fun _ => Option (QS × List (Option CallRes))) mo fun m dst gd =>
        let go : Option (QS × List (Option CallRes)) :=
          match fop1 P an (opAt ops i) base i m t st nx with
          | some ⟨⟨u, rd, up⟩, nx', cl⟩ =>
            fu u fun u => dstK dst u t fun t' => setAllF up st fun st' => forceN nx' fun nx' => ih (Nat.succ i) t' st' nx' (bif draw then rs ++ [some ⟨⟨u, rd, up⟩, nx', cl⟩] else rs)
          | none => none
        match gd with
        | none => go
        | some (p, b) =>
          match t.get p with
          | .dat (.bool c) => bif beqO c b then go else dstK dst .undef t fun t' => ih (Nat.succ i) t' st nx (bif draw then rs ++ [none] else rs)
          | .undef => dstK dst .undef t fun t' => ih (Nat.succ i) t' st nx (bif draw then rs ++ [none] else rs)
          | _ => none) l
noncomputable def frounds (f : QS → Option (X × QS)) (n : Nat) : QS → Option (X × QS) :=
  Nat.rec (motive := fun _ => QS → Option (X × QS)) (fun _ => none)
    (fun _ ih s => match f s with
      | some (x, s1) => match x with
        | .normal => ih s1
        | x => some (x, s1)
      | none => none) n
noncomputable def fexec (P : Program) (an : An) (c : FC) : QS → Option (X × QS) :=
  FC.rec (motive := fun _ => QS → Option (X × QS))
    (fun s => some (.normal, s))
    (fun _ _ ia ib s => match ia s with
      | some (x, s1) => match x with
        | .normal => ib s1
        | x => some (x, s1)
      | none => none)
    (fun x _ _ _ ia ib s => match x.ev s.t with
      | .dat (.bool t) => Bool.rec (ib s) (ia s) t
      | _ => none)
    (fun id _ ib s => match ib s with
      | some (x, s1) => match x with
        | .exit j => bif Nat.beq j id then some (.normal, s1) else some (.exit j, s1)
        | x => some (x, s1)
      | none => none)
    (fun _ ib s => frounds ib 1000000 s)
    (fun id s => some (.exit id, s))
    (fun s => some (.ret, s))
    (fun _ ops draw l s => QS.casesOn (motive := fun _ => Option (X × QS)) s fun t st nx =>
      match fops P an ops nx draw l 0 t st (Nat.add nx (Nat.mul 8 ops.size)) [] with
      | some (s1, rs) => bif !draw || regionOk ops rs then some (.normal, s1) else none
      | none => none)
    (fun _ _ => none) c

noncomputable def argsK {β : Type} (us : List U) (ap : List Pth) (t : T) (k : T → β) (e : β) : β :=
  List.rec (motive := fun _ => List Pth → T → β) (fun _ t => k t)
    (fun u _ ih ap t => List.casesOn (motive := fun _ => β) ap e fun p ap => fu u fun u => T.setK u p t fun t => ih ap t) us ap t
noncomputable def fress (P : Program) (g : Nat → Option Obj) (t : T) (l : List RV) (k : List U → Option (U × Store × Nat)) : Option (U × Store × Nat) :=
  List.rec (motive := fun _ => (List U → Option (U × Store × Nat)) → Option (U × Store × Nat)) (fun k => k [])
    (fun r _ ih k => match r with
      | .tmp p => fu (t.get p) fun u => ih fun us => k (u :: us)
      | .cell p ty n ag => match fload g n ag (t.get p) with
        | some r => fu r.u fun u => ih fun us => k (u :: us)
        | none => match opLoad P g ty (t.get p) with
          | some r => forceU r.u fun u => ih fun us => k (u :: us)
          | none => none) l k
/-- objects that are not needed any more are dropped -/
noncomputable def fgc (us : List U) (st0 st : Store) (k : Store → Option (U × Store × Nat)) : Option (U × Store × Nat) :=
  keysR st0 fun ks =>
  match refsR us ks with
  | [] => k []
  | l => forceNs (reachR (getF st) 400 l []) fun ids =>
    bif closedR (getF st) ids ids && subR l ids then subSt (getF st) ids k else k st
noncomputable def fcall (P : Program) (an : An) (tab : TT) (k : Nat) : Nat → List U → Store → Nat → Option (U × Store × Nat) :=
  Nat.rec (motive := fun _ => Nat → List U → Store → Nat → Option (U × Store × Nat)) (fun _ _ _ _ => none)
    (fun _ ih f us st nx =>
      match an.call f us st nx with
      | some r => some r
      | none =>
        match tab.get f with
        | none => none
        | some ⟨n, t0, ap, code, res⟩ =>
          argsK us ap t0 (fun t =>
            match fexec P { an with call := ih } code ⟨t, st, nx⟩ with
            | some (x, ⟨t', st', nx'⟩) =>
              match x with
              | .exit _ => none
              | _ => fress P (getF st') t' res fun us' =>
                match us' with
                | [u] => fgc [u] st st' fun st2 => some (u, st2, nx')
                | l => fgc l st st' fun st2 => some (.tup l, st2, nx')
            | none => none) none) k

end Go.Proofs.YtillejiepbgkbaaGreat.V
