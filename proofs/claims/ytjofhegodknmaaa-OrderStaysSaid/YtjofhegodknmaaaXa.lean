/- X, 1: operations on data, without a program. To: X, 5: steps of trees. -/
import Derived.Test.YtjofhegodknmaaaWc
set_option linter.unusedSimpArgs false
set_option linter.unusedVariables false
namespace Go.Proofs.Ytjofhegodknmaaa.W
open Go Go.RowKit
open V hiding At
inductive Cop where
  | bin (op : BinOp)
  | no
  | conv (j : IntKind)
  | mx (b : Bool)
  | text
  | isNil (sl neg : Bool)
  | mget (z : D)
  | mhas
  | mput
  | slen
  | sidx
  | ssl (lo hi : Bool)
  | neg
  | pop (o : POp)
  deriving Inhabited
def lookM (s : List UInt8) : List D → Option (Option D)
  | [] => some none
  | .str x :: v :: r => if beqT s x.data.toList then some (some v) else lookM s r
  | _ => none
def putM (s : ByteArray) (d : D) : List D → Option (List D)
  | [] => some [.str s, d]
  | .str x :: v :: r => if beqT s.data.toList x.data.toList then some (.str s :: d :: r) else (putM s d r).map fun l => .str x :: v :: l
  | _ => none
def binD (op : BinOp) : D → D → Option D
  | .int k m, .int j n =>
    if shiftOp op then (bitI op k m n).map (.int k)
    else if k = j then
      match cmpI op m n with
      | some r => some (.bool r)
      | none => match ariI op k m n with
        | some r => some (.int k r)
        | none => (bitI op k m n).map (.int k)
    else none
  | .str a, .str b =>
    match op with
    | .lss => some (.bool (Op.bytesLess a.toList b.toList))
    | .gtr => some (.bool (!(Op.bytesLess a.toList b.toList || a.toList == b.toList)))
    | .eql => some (.bool (a.toList == b.toList))
    | .neq => some (.bool (!(a.toList == b.toList)))
    | .add => if a.size + b.size ≤ 9223372036854775807 then some (.str (a ++ b)) else none
    | _ => none
  | _, _ => none
def freeP : POp → Bool
  | .cell _ _ | .sub _ _ _ | .mkAgg | .mkFp | .mkFn _ | .mkLst _ _ | .cat _ _ _ | .elt _ | .upd _ _ _ | .len | .slc _ _ _ | .zeros _ _ _ | .fpOf _ | .deref _ | .isPtr | .room _ _ | .mlen | .addN | .clr _ _ _ => true
  | _ => false
def P0 : Program := default
def copD : Cop → List D → Option D
  | .bin op, [a, b] => binD op a b
  | .no, [.bool b] => some (.bool (!b))
  | .conv j, [.int _ n] => some (.int j (j.wrap n))
  | .mx b, [.int k m, .int j n] => if k = j then some (.int k (if b then (if n > m then n else m) else (if n < m then n else m))) else none
  | .text, [.lst l] => (bytesOfD l).map fun b => .str ⟨b.toArray⟩
  | .isNil true neg, [.lst _] => some (.bool neg)
  | .isNil true neg, [.nil] => some (.bool (!neg))
  | .isNil false neg, [.fp _] => some (.bool neg)
  | .mget z, [.lst l, .str s] =>
    match lookM s.data.toList l with
    | some (some d) => if d.one then some d else none
    | some none => if z.one then some z else none
    | none => none
  | .mhas, [.lst l, .str s] => (lookM s.data.toList l).map fun r => .bool r.isSome
  | .mput, [.lst l, .str s, d] => (putM s d l).map .lst
  | .slen, [.str s] => some (.int .i64 s.size)
  | .sidx, [.str s, .int _ i] => if 0 ≤ i then (s[i.toNat]?).map fun b => .int .u8 b.toNat else none
  | .ssl lo hi, .str s :: ds =>
    match boundD 0 lo ds with
    | some (a, ds) =>
      match boundD s.size hi ds with
      | some (b, []) => if a ≤ b ∧ b ≤ s.size then some (.str (s.extract a b)) else none
      | _ => none
    | none => none
  | .neg, [.int k n] => some (.int k (k.wrap (-n)))
  | .pop o, ds => if freeP o then popD P0 o ds else none
  | _, _ => none
section
variable {P : Program}
theorem free_eq {o : POp} (h : freeP o = true) (ds : List D) : popD P o ds = popD P0 o ds := by
  cases o <;> first
    | (simp [freeP] at h; done)
    | rfl
    | (rcases ds with _ | ⟨a, _ | ⟨b, _ | ⟨c, _ | ⟨e, r⟩⟩⟩⟩ <;> first | rfl | (cases a <;> first | rfl | (cases b <;> first | rfl | (cases c <;> rfl))))
    | (rcases ds with _ | ⟨a, _ | ⟨b, _ | ⟨c, r⟩⟩⟩ <;> first | rfl | (cases a <;> first | rfl | (cases b <;> rfl) | (rename_i k n; cases k <;> rfl)))
def lookT : List Nat → List At → Nat → Option At
  | t :: ts, a :: as, s => if Nat.beq t s then some a else lookT ts as s
  | _, _, _ => none
def argOf (ts : List Nat) (as : List At) : Operand → Option At
  | .tmp t => lookT ts as t
  | .const v => (constD v).map .c
  | _ => none
def args (ts : List Nat) (as : List At) : List Operand → Option (List At)
  | [] => some []
  | x :: r => match argOf ts as x, args ts as r with
    | some a, some l => some (a :: l)
    | _, _ => none
def sameT (ts : List Nat) (as : List At) : List Nat → List At → Bool
  | [], [] => true
  | t :: r, a :: q => (match lookT ts as t with | some b => beqA b a | none => false) && sameT ts as r q
  | _, _ => false
theorem atsD_of {env : List D} : ∀ {as : List At}, (∀ a ∈ as, ∃ d, atD env a = some d) → ∃ ds, atsD env as = some ds
  | [], h => ⟨[], rfl⟩
  | a :: r, h => by
    obtain ⟨d, hd⟩ := h a (by simp)
    obtain ⟨l, hl⟩ := atsD_of fun b hb => h b (List.mem_cons_of_mem _ hb)
    exact ⟨d :: l, atsD_mk hd hl⟩
theorem sameT_eq {env : List D} {ts0 : List Nat} {as0 : List At} : ∀ {ts : List Nat} {as : List At} {ds : List D}, sameT ts0 as0 ts as = true → atsD env as = some ds → ds = ts.map fun t => ((lookT ts0 as0 t).bind (atD env)).getD .nil
  | [], [], ds, h, hd => by simp [atsD] at hd; subst hd; rfl
  | t :: r, a :: q, ds, h, hd => by
    simp only [sameT, Bool.and_eq_true] at h
    obtain ⟨d, l, h1, h2, rfl⟩ := atsD_cons hd
    have ih := sameT_eq h.2 h2
    split at h
    · rename_i b hb
      have := beqA_eq h.1
      subst this
      simp only [List.map_cons, hb, Option.bind_some, h1, Option.getD_some, ← ih]
    · simp at h
  | [], _ :: _, _, h, _ => by simp [sameT] at h
  | _ :: _, [], _, h, _ => by simp [sameT] at h
theorem lookT_mem : ∀ {ts : List Nat} {as : List At} {t : Nat} {a : At}, lookT ts as t = some a → t ∈ ts ∧ a ∈ as
  | t :: ts, a :: as, s, b, h => by
    simp only [lookT] at h
    split at h
    · rename_i e
      obtain rfl := Nat.eq_of_beq_eq_true e
      obtain rfl := Option.some.inj h
      simp
    · obtain ⟨h1, h2⟩ := lookT_mem h
      simp [h1, h2]
theorem args_get {ts : List Nat} {as : List At} {env : List D} : ∀ {xs : List Operand} {bs : List At} {ds : List D}, args ts as xs = some bs → atsD env bs = some ds → ∀ (i : Nat) x, xs[i]? = some x → ∃ b d, argOf ts as x = some b ∧ ds[i]? = some d ∧ atD env b = some d
  | [], bs, ds, h, hd, i, x, hx => by simp at hx
  | y :: r, bs, ds, h, hd, i, x, hx => by
    simp only [args] at h
    split at h
    · rename_i a l h1 h2
      obtain rfl := Option.some.inj h
      obtain ⟨d, q, g1, g2, rfl⟩ := atsD_cons hd
      cases i with
      | zero =>
        simp only [List.getElem?_cons_zero, Option.some.injEq] at hx
        subst hx
        exact ⟨a, d, h1, rfl, g1⟩
      | succ i => exact args_get h2 g2 i x (by simpa using hx)
    · simp at h
theorem prim_env {xs : List Operand} {ts : List Nat} {as bs : List At} {env ds : List D} (ht : ts = tmps xs) (hs : sameT ts as ts as = true) (ha : args ts as xs = some bs) (hd : atsD env bs = some ds) :
    ∃ ds0, atsD env as = some ds0 ∧ ∀ (i : Nat) x, xs[i]? = some x → ∃ d, ds[i]? = some d ∧ evalU (tmOf ts ds0) x = some (.dat d) := by
  have key : ∀ t ∈ ts, ∃ a d, lookT ts as t = some a ∧ atD env a = some d := by
    intro t h
    have : ∃ i : Nat, xs[i]? = some (Operand.tmp t) := by
      subst ht
      clear hs ha hd
      induction xs with
      | nil => simp [tmps] at h
      | cons x r ih =>
        cases x with
        | tmp s =>
          simp only [tmps, List.mem_cons] at h
          rcases h with rfl | h
          · exact ⟨0, rfl⟩
          · obtain ⟨i, hi⟩ := ih h; exact ⟨i + 1, by simpa using hi⟩
        | _ => obtain ⟨i, hi⟩ := ih (by simpa [tmps] using h); exact ⟨i + 1, by simpa using hi⟩
    obtain ⟨i, hi⟩ := this
    obtain ⟨b, d, h1, h2, h3⟩ := args_get ha hd i _ hi
    exact ⟨b, d, h1, h3⟩
  have hall : ∀ {ts1 : List Nat} {as1 : List At}, sameT ts as ts1 as1 = true → (∀ t ∈ ts1, t ∈ ts) → ∀ a ∈ as1, ∃ d, atD env a = some d := by
    intro ts1
    induction ts1 with
    | nil => intro as1 h1 _ a hm; cases as1 with
      | nil => simp at hm
      | cons => simp [sameT] at h1
    | cons t r ih =>
      intro as1 h1 h2 a hm
      cases as1 with
      | nil => simp at hm
      | cons b q =>
        simp only [sameT, Bool.and_eq_true] at h1
        rcases List.mem_cons.1 hm with rfl | hm
        · obtain ⟨a', d, k1, k2⟩ := key t (h2 t (by simp))
          have := h1.1
          rw [k1] at this
          have := beqA_eq this
          subst this
          exact ⟨d, k2⟩
        · exact ih h1.2 (fun t' ht' => h2 t' (List.mem_cons_of_mem _ ht')) a hm
  obtain ⟨ds0, h0⟩ := atsD_of (hall hs fun t h => h)
  refine ⟨ds0, h0, fun i x hx => ?_⟩
  obtain ⟨b, d, h1, h2, h3⟩ := args_get ha hd i x hx
  refine ⟨d, h2, ?_⟩
  cases x with
  | tmp t =>
    have hm := (lookT_mem h1).1
    have e0 := sameT_eq hs h0
    simp only [evalU, tmOf]
    rw [e0, putTm_at (f := fun t => ((lookT ts as t).bind (atD env)).getD .nil) (fun s hs => by rw [List.length_replicate]; exact maxN_lt hs) hm]
    have h1' : lookT ts as t = some b := h1
    simp [h1', h3]
  | const v =>
    simp only [argOf] at h1
    obtain ⟨c, hc, rfl⟩ := Option.map_eq_some_iff.1 h1
    simp only [atD, Option.some.injEq] at h3
    subst h3
    simp [evalU, hc]
  | _ => simp [argOf] at h1
end
end Go.Proofs.Ytjofhegodknmaaa.W
namespace Go.Proofs.Ytjofhegodknmaaa.W
open Go Go.RowKit
open V hiding At
section
variable {P : Program}
theorem pure_one {tm : List U} {o : Oper} {x : Operand} {v w : Value} {d : D} (hops : o.op.operands.toList = [x]) (hx : (evalU tm x).bind valU = some v) (hns : ∀ cs b, o.op ≠ .select cs b)
    (he : ∀ ρ : Operand → Value, ρ x = v → pureSem P (execOp ρ o) = some (.value w)) (hd : constD w = some d) : opPure P tm o = some ⟨.dat d, [], []⟩ := by
  unfold opPure
  rw [hops]
  simp only [List.all_cons, List.all_nil, hx, Option.isSome_some, Bool.and_self, if_true, Bool.and_true]
  rw [he (fun x => ((evalU tm x).bind valU).getD undef) (by simp only [hx]; rfl)]
  cases ho : o.op <;> first | exact absurd ho (hns _ _) | simp only [hd, Option.map_some]
theorem pure_two {tm : List U} {o : Oper} {x y : Operand} {v z w : Value} {d : D} (hops : o.op.operands.toList = [x, y]) (hx : (evalU tm x).bind valU = some v) (hy : (evalU tm y).bind valU = some z) (hns : ∀ cs b, o.op ≠ .select cs b)
    (he : ∀ ρ : Operand → Value, ρ x = v → ρ y = z → pureSem P (execOp ρ o) = some (.value w)) (hd : constD w = some d) : opPure P tm o = some ⟨.dat d, [], []⟩ := by
  unfold opPure
  rw [hops]
  simp only [List.all_cons, List.all_nil, hx, hy, Option.isSome_some, Bool.and_self, if_true, Bool.and_true]
  rw [he (fun x => ((evalU tm x).bind valU).getD undef) (by simp only [hx]; rfl) (by simp only [hy]; rfl)]
  cases ho : o.op <;> first | exact absurd ho (hns _ _) | simp only [hd, Option.map_some]
theorem bin_pure {op : BinOp} {t w : TypeId} {x y : Operand} {tm : List U} {o : Oper} {a b d : D} (ho : o.op = .binOp op t x y w) (hx : evalU tm x = some (.dat a)) (hy : evalU tm y = some (.dat b)) (h : binD op a b = some d) : opPure P tm o = some ⟨.dat d, [], []⟩ ∧ d.one = true := by
  letI : Sig := ⟨fun _ => .nil⟩
  have hops : o.op.operands.toList = [x, y] := by rw [ho]; rfl
  have hns : ∀ cs b, o.op ≠ .select cs b := by rw [ho]; simp
  cases a with
  | int k m =>
    cases b with
    | int j n =>
      simp only [binD] at h
      split at h
      · rename_i hs
        obtain ⟨r, hr, rfl⟩ := Option.map_eq_some_iff.1 h
        exact ⟨opPure_bin ho hx hy (orc_bit rfl rfl (.inl hs) hr rfl) const_int, rfl⟩
      · split at h
        · rename_i hkj
          subst hkj
          split at h
          · rename_i r hr
            obtain rfl := Option.some.inj h
            exact ⟨opPure_bin ho hx hy (orc_cmp rfl rfl hr) const_bool, rfl⟩
          · split at h
            · rename_i r hr
              obtain rfl := Option.some.inj h
              exact ⟨opPure_bin ho hx hy (orc_ari rfl rfl hr rfl) const_int, rfl⟩
            · obtain ⟨r, hr, rfl⟩ := Option.map_eq_some_iff.1 h
              exact ⟨opPure_bin ho hx hy (orc_bit rfl rfl (.inr rfl) hr rfl) const_int, rfl⟩
        · simp at h
    | _ => simp [binD] at h
  | str p =>
    cases b with
    | str q =>
      have hg : ∀ (op : BinOp), pureSem P (eqGuard op t x y (.string p) (.string q)) = some () := by
        intro op
        unfold eqGuard
        cases op <;> rfl
      have hxv : (evalU tm x).bind valU = some (.string p) := by rw [hx]; rfl
      have hyv : (evalU tm y).bind valU = some (.string q) := by rw [hy]; rfl
      have fin : ∀ {v : Value}, pureSem P (binOp op t (.string p) (.string q)) = some v → ∀ ρ : Operand → Value, ρ x = .string p → ρ y = .string q → pureSem P (execOp ρ o) = some (.value v) := by
        intro v hv ρ h1 h2
        simp only [execOp, ho, h1, h2, pureSem_bind, hg, hv, Option.bind_some]
        rfl
      simp only [binD] at h
      split at h
      · obtain rfl := Option.some.inj h
        exact ⟨pure_two hops hxv hyv hns (fin (v := .bool (Op.bytesLess p.toList q.toList)) (by simp [binOp, Op.stringOp, pureSem])) rfl, rfl⟩
      · obtain rfl := Option.some.inj h
        exact ⟨pure_two hops hxv hyv hns (fin (v := .bool (!(Op.bytesLess p.toList q.toList || p.toList == q.toList))) (by simp [binOp, Op.stringOp, pureSem])) rfl, rfl⟩
      · obtain rfl := Option.some.inj h
        exact ⟨pure_two hops hxv hyv hns (fin (v := .bool (p.toList == q.toList)) (by simp [binOp, Op.stringOp, pureSem])) rfl, rfl⟩
      · obtain rfl := Option.some.inj h
        exact ⟨pure_two hops hxv hyv hns (fin (v := .bool (!(p.toList == q.toList))) (by simp [binOp, Op.stringOp, pureSem])) rfl, rfl⟩
      · split at h
        · rename_i hsz
          obtain rfl := Option.some.inj h
          refine ⟨pure_two hops hxv hyv hns (fin (v := .string (p ++ q)) ?_) rfl, rfl⟩
          have hn : ¬ (9223372036854775807 : Int) < (p.size : Int) + (q.size : Int) := by omega
          simp only [binOp, Op.stringOp]
          simp [hn, pureSem]
        · simp at h
      · simp at h
    | _ => simp [binD] at h
  | _ => simp [binD] at h
theorem no_pure {t : TypeId} {x : Operand} {tm : List U} {o : Oper} {b : Bool} (ho : o.op = .unOp .not t x) (hx : evalU tm x = some (.dat (.bool b))) : opPure P tm o = some ⟨.dat (.bool (!b)), [], []⟩ :=
  pure_one (v := .bool b) (w := .bool (!b)) (x := x) (by rw [ho]; rfl) (by rw [hx]; rfl) (by rw [ho]; simp) (fun ρ h => by simp [execOp, ho, h, pureSem_bind, Op.unary, pureSem]) rfl
theorem conv_pure {s t : TypeId} {x : Operand} {tm : List U} {o : Oper} {k j : IntKind} {n : Int} {sd : TypeDesc} (ho : o.op = .convert s t x) (hs : P.underlying s = some sd) (ht : P.underlying t = some (.int j)) (hx : evalU tm x = some (.dat (.int k n))) : opPure P tm o = some ⟨.dat (.int j (j.wrap n)), [], []⟩ := by
  refine pure_one (v := .int k n) (w := .int j (j.wrap n)) (x := x) (by rw [ho]; rfl) (by rw [hx]; rfl) (by rw [ho]; simp) (fun ρ h => ?_) rfl
  have : pureSem P (convert s t (.int k n)) = some (.int j (j.wrap n)) := by
    unfold convert
    simp only [pureSem_bind, pureSem_underlying P s hs, pureSem_underlying P t ht, Option.bind_some]
    rfl
  simp only [execOp, ho, h, pureSem_bind, this, Option.bind_some]
  rfl
theorem mx_pure {c : Call} {b : Bool} {x y : Operand} {tm : List U} {o : Oper} {k : IntKind} {m n : Int} (ho : o.op = .call c) (hcal : c.callee = .builtin (if b then .max else .min)) (hargs : c.args.toList = [x, y]) (hx : evalU tm x = some (.dat (.int k m))) (hy : evalU tm y = some (.dat (.int k n))) :
    opPure P tm o = some ⟨.dat (.int k (if b then (if n > m then n else m) else (if n < m then n else m))), [], []⟩ := by
  have hca : c.args = #[x, y] := by
    apply Array.ext'
    simpa using hargs
  refine pure_two (v := .int k m) (z := .int k n) (w := .int k (if b then (if n > m then n else m) else (if n < m then n else m))) (x := x) (y := y) (by rw [ho]; simp [Op.operands, Call.operands, hcal, hargs]) (by rw [hx]; rfl) (by rw [hy]; rfl) (by rw [ho]; simp) (fun ρ h1 h2 => ?_) rfl
  cases b <;> simp only [if_true, Bool.false_eq_true, if_false] at hcal ⊢
  all_goals
    simp only [execOp, ho, Go.resolve, hcal, hca]
    simp [h1, h2, pureSem_bind, invoke, builtin, Builtin.max_, Builtin.min_, Builtin.max2, Builtin.min2]
theorem lookM_find {s : List UInt8} : ∀ {l : List D} {r : Option D} {i : Nat}, lookM s l = some r →
    (r = none ∧ findS s (l.map U.dat) i = some none) ∨ ∃ v j, r = some v ∧ findS s (l.map U.dat) i = some (some j) ∧ i ≤ j ∧ (l.map U.dat)[2 * (j - i) + 1]? = some (.dat v)
  | [], r, i, h => by simp [lookM] at h; exact .inl ⟨h.symm, rfl⟩
  | [a], r, i, h => by cases a <;> simp [lookM] at h
  | a :: v :: q, r, i, h => by
    cases a with
    | str x =>
      simp only [lookM] at h
      split at h
      · rename_i hx
        simp only [Option.some.injEq] at h
        subst h
        exact .inr ⟨v, i, rfl, by simp only [List.map_cons, findS, hx, if_true], Nat.le_refl _, by simp⟩
      · rename_i hx
        rcases lookM_find (i := i + 1) h with ⟨h1, h2⟩ | ⟨w, j, h1, h2, h3, h4⟩
        · exact .inl ⟨h1, by simp only [List.map_cons, findS, hx]; exact h2⟩
        · refine .inr ⟨w, j, h1, by simp only [List.map_cons, findS, hx]; exact h2, by omega, ?_⟩
          have e : 2 * (j - i) + 1 = 2 * (j - (i + 1)) + 1 + 2 := by omega
          rw [e]
          simpa using h4
    | _ => simp [lookM] at h
theorem lookM_pure {t kt et : TypeId} {s : ByteArray} {l : List D} {r : Option D} {z : D} (h1 : P.underlying t = some (.map kt et)) (h2 : P.underlying kt = some .string) (h3 : zeroD P et = some z) (h : lookM s.data.toList l = some r) (ok : Bool) :
    opLookup P (fakeM t l) t ok (.map 0 0) (.dat (.str s)) = some ⟨if ok then .tup [.dat (r.getD z), .dat (.bool r.isSome)] else .dat (r.getD z), [0], []⟩ := by
  unfold opLookup
  simp only [h1, fakeM]
  have hv : valU (.dat (.str s)) = some (.string s) := rfl
  simp only [hv, true_and]
  have hk : keyOk P kt (.string s) (l.map U.dat).isEmpty = true := by simp only [keyOk, h2]
  simp only [hk, if_true]
  have hf : findU P kt (.string s) (l.map U.dat) = findS s.data.toList (l.map U.dat) 0 := by simp only [findU, h2]
  rw [hf]
  rcases lookM_find (i := 0) h with ⟨rfl, h5⟩ | ⟨v, j, rfl, h5, _, h6⟩
  · rw [h5]
    simp only [h3, Option.map_some]
    cases ok <;> rfl
  · rw [h5]
    simp only [Nat.sub_zero] at h6
    simp only [h6, Option.map_some]
    cases ok <;> rfl
theorem putM_find {s : ByteArray} {d : D} : ∀ {l r : List D} {i : Nat}, putM s d l = some r →
    (findS s.data.toList (l.map U.dat) i = some none ∧ r = l ++ [.str s, d]) ∨ ∃ j, findS s.data.toList (l.map U.dat) i = some (some j) ∧ i ≤ j ∧ (l.map U.dat)[2 * (j - i)]? = some (.dat (.str s)) ∧ r.map U.dat = ((l.map U.dat).set (2 * (j - i)) (.dat (.str s))).set (2 * (j - i) + 1) (.dat d)
  | [], r, i, h => by simp [putM] at h; exact .inl ⟨rfl, by simp [← h]⟩
  | [a], r, i, h => by cases a <;> simp [putM] at h
  | a :: v :: q, r, i, h => by
    cases a with
    | str x =>
      simp only [putM] at h
      split at h
      · rename_i hx
        simp only [Option.some.injEq] at h
        subst h
        have he : s = x := by
          have := beqT_iff.1 hx
          cases s; cases x
          simp only at this
          congr
          exact Array.ext' this
        subst he
        exact .inr ⟨i, by simp only [List.map_cons, findS, hx, if_true], Nat.le_refl _, by simp, by simp⟩
      · rename_i hx
        obtain ⟨l', hl', rfl⟩ := Option.map_eq_some_iff.1 h
        rcases putM_find (i := i + 1) hl' with ⟨g1, g2⟩ | ⟨j, g1, g2, g3, g4⟩
        · exact .inl ⟨by simp only [List.map_cons, findS, hx]; exact g1, by simp [g2]⟩
        · refine .inr ⟨j, by simp only [List.map_cons, findS, hx]; exact g1, by omega, ?_, ?_⟩
          · have e : 2 * (j - i) = 2 * (j - (i + 1)) + 2 := by omega
            rw [e]
            simpa using g3
          · have e : 2 * (j - i) = 2 * (j - (i + 1)) + 1 + 1 := by omega
            have e2 : 2 * (j - i) + 1 = 2 * (j - (i + 1)) + 1 + 1 + 1 := by omega
            rw [e2, e]
            simp only [List.map_cons, List.set_cons_succ, g4]
    | _ => simp [putM] at h
theorem putM_pure {t kt et : TypeId} {s : ByteArray} {l r : List D} {d : D} (h1 : P.underlying t = some (.map kt et)) (h2 : P.underlying kt = some .string) (h : putM s d l = some r) :
    ∃ ob, opMapUpdate P (fakeM t l) t (.map 0 0) (.dat (.str s)) (.dat d) = some ⟨.undef, [0], [(0, ob)]⟩ ∧ ob.cells = r.map .dat := by
  unfold opMapUpdate
  simp only [h1, fakeM]
  have hv : valU (.dat (.str s)) = some (.string s) := rfl
  simp only [hv, true_and]
  have hk : keyOk P kt (.string s) false = true := by simp only [keyOk, h2]
  simp only [hk, if_true]
  have hf : findU P kt (.string s) (l.map U.dat) = findS s.data.toList (l.map U.dat) 0 := by simp only [findU, h2]
  rw [hf]
  rcases putM_find (i := 0) h with ⟨g1, rfl⟩ | ⟨j, g1, _, g3, g4⟩
  · rw [g1]
    exact ⟨_, rfl, by simp⟩
  · rw [g1]
    simp only [Nat.sub_zero] at g3 g4
    simp only [g3, Option.bind_some, hv]
    have hs : Instr.sameBits 10000 (.string s) (.string s) = true := by
      simp only [Instr.sameBits]
      first | exact beq_self_eq_true s | (cases s with | mk data => show (data == data) = true; simp)
    simp only [hs, if_true]
    exact ⟨_, rfl, by rw [g4]⟩
theorem asDat_map : ∀ (l : List D), (l.map U.dat).mapM asDat = some l
  | [] => rfl
  | d :: r => by rw [List.map_cons, List.mapM_cons, asDat_map r]; rfl
def beqNats : List Nat → List Nat → Bool
  | [], [] => true
  | a :: r, b :: q => Nat.beq a b && beqNats r q
  | _, _ => false
theorem beqNats_eq : ∀ {a b : List Nat}, beqNats a b = true → a = b
  | [], [], _ => rfl
  | a :: r, b :: q, h => by
    simp only [beqNats, Bool.and_eq_true] at h
    rw [Nat.eq_of_beq_eq_true h.1, beqNats_eq h.2]
  | [], _ :: _, h => by simp [beqNats] at h
  | _ :: _, [], h => by simp [beqNats] at h
def primC (P : Program) (o : Op) (bs : List At) : Option (Cop × List At) :=
  match o with
  | .binOp op _ _ _ _ => some (.bin op, bs)
  | .unOp .not _ _ => some (.no, bs)
  | .convert s d _ =>
    match P.underlying s, P.underlying d with
    | some _, some (.int j) => some (.conv j, bs)
    | _, _ => none
  | .call c =>
    match c.callee, c.args.toList with
    | .builtin .max, [_, _] => some (.mx true, bs)
    | .builtin .min, [_, _] => some (.mx false, bs)
    | _, _ => none
  | _ => none
def nilOk (P : Program) (neg : Bool) (o : Op) (t : TypeId) (ts : List Nat) : Bool :=
  match opPure P (tmOf ts [.nil]) ⟨none, o, t, "", #[], none⟩ with
  | some ⟨.dat (.bool b), _, _⟩ => b == !neg
  | _ => false
def toC (P : Program) (o : POp) (as : List At) : Option (Cop × List At) :=
  match o with
  | .prim o _ ts => if beqNats ts (tmps o.operands.toList) && sameT ts as ts as then (args ts as o.operands.toList).bind (primC P o) else none
  | .ofBytes o _ ts =>
    match o, ts with
    | .convert _ _ (.tmp s), [s'] => if Nat.beq s s' then some (.text, as) else none
    | _, _ => none
  | .isNil sl neg o t ts => if !sl || nilOk P neg o t ts then some (.isNil sl neg, as) else none
  | .mget t =>
    match P.underlying t with
    | some (.map kt et) => match P.underlying kt, zeroD P et with
      | some .string, some z => some (.mget z, as)
      | _, _ => none
    | _ => none
  | .mhas t =>
    match P.underlying t with
    | some (.map kt et) => match P.underlying kt, zeroD P et with
      | some .string, some _ => some (.mhas, as)
      | _, _ => none
    | _ => none
  | .mput t =>
    match P.underlying t with
    | some (.map kt _) => match P.underlying kt with
      | some .string => some (.mput, as)
      | _ => none
    | _ => none
  | o => if freeP o then some (.pop o, as) else none
theorem args_len {ts : List Nat} {as : List At} : ∀ {xs : List Operand} {bs : List At}, args ts as xs = some bs → bs.length = xs.length
  | [], bs, h => by simp [args] at h; simp [← h]
  | x :: r, bs, h => by
    simp only [args] at h
    split at h
    · rename_i a l h1 h2
      obtain rfl := Option.some.inj h
      simp [args_len h2]
    · simp at h
theorem one_of {ds : List D} (h : ds.length = 1) {a : D} (e : ds[0]? = some a) : ds = [a] := by
  match ds, h with
  | [p], _ => simp at e; rw [e]
theorem two_of {ds : List D} (h : ds.length = 2) {a b : D} (e : ds[0]? = some a) (e' : ds[1]? = some b) : ds = [a, b] := by
  match ds, h with
  | [p, q], _ => simp at e e'; rw [e, e']
theorem prim_ok {o : Op} {t : TypeId} {ts : List Nat} {as bs bs' : List At} {c : Cop} {env ds : List D} {d : D} (h1 : beqNats ts (tmps o.operands.toList) = true) (h2 : sameT ts as ts as = true) (h3 : args ts as o.operands.toList = some bs) (h4 : primC P o bs = some (c, bs'))
    (hd : atsD env bs' = some ds) (hc : copD c ds = some d) : ∃ ds0, atsD env as = some ds0 ∧ popD P (.prim o t ts) ds0 = some d := by
  have hbs : bs' = bs := by
    unfold primC at h4
    repeat' split at h4
    all_goals first | (simp at h4; done) | (simp only [Option.some.injEq, Prod.mk.injEq] at h4; exact h4.2.symm)
  subst hbs
  obtain ⟨ds0, g1, g2⟩ := prim_env (beqNats_eq h1) h2 h3 hd
  refine ⟨ds0, g1, ?_⟩
  suffices hs : opPure P (tmOf ts ds0) ⟨none, o, t, "", #[], none⟩ = some ⟨.dat d, [], []⟩ ∧ d.one = true by
    simp only [popD, hs.1, hs.2, if_true]
  unfold primC at h4
  split at h4
  · rename_i op t' x y w
    simp only [Option.some.injEq, Prod.mk.injEq, and_true] at h4
    subst h4
    obtain ⟨a, e1, e2⟩ := g2 0 x rfl
    obtain ⟨b, e3, e4⟩ := g2 1 y rfl
    have hl : ds = [a, b] := by
      have hlen : ds.length = 2 := by rw [atsD_len hd, args_len h3]; rfl
      match ds, hlen with
      | [p, q], _ => simp at e1 e3; rw [e1, e3]
    subst hl
    exact bin_pure rfl e2 e4 hc
  · rename_i t' x
    simp only [Option.some.injEq, Prod.mk.injEq, and_true] at h4
    subst h4
    obtain ⟨a, e1, e2⟩ := g2 0 x rfl
    obtain rfl := one_of (by rw [atsD_len hd, args_len h3]; rfl) e1
    cases a with
    | bool b =>
      simp only [copD, Option.some.injEq] at hc
      subst hc
      exact ⟨no_pure rfl e2, rfl⟩
    | _ => simp [copD] at hc
  · rename_i s t' x
    split at h4
    · rename_i sd j hs ht
      simp only [Option.some.injEq, Prod.mk.injEq, and_true] at h4
      subst h4
      obtain ⟨a, e1, e2⟩ := g2 0 x rfl
      obtain rfl := one_of (by rw [atsD_len hd, args_len h3]; rfl) e1
      cases a with
      | int k n =>
        simp only [copD, Option.some.injEq] at hc
        subst hc
        exact ⟨conv_pure rfl hs ht e2, rfl⟩
      | _ => simp [copD] at hc
    · simp at h4
  · rename_i cl
    have hmx : ∀ (b : Bool) (x y : Operand), cl.callee = .builtin (if b then .max else .min) → cl.args.toList = [x, y] → c = .mx b → opPure P (tmOf ts ds0) ⟨none, .call cl, t, "", #[], none⟩ = some ⟨.dat d, [], []⟩ ∧ d.one = true := by
      intro b x y hcal hargs hcc
      have hops : (Op.call cl).operands.toList = [x, y] := by cases b <;> simp [Op.operands, Call.operands, hcal, hargs]
      obtain ⟨p, e1, e2⟩ := g2 0 x (by rw [hops]; rfl)
      obtain ⟨q, e3, e4⟩ := g2 1 y (by rw [hops]; rfl)
      obtain rfl := two_of (by rw [atsD_len hd, args_len h3, hops]; rfl) e1 e3
      subst hcc
      cases p with
      | int k m =>
        cases q with
        | int j n =>
          simp only [copD] at hc
          split at hc
          · rename_i hkj
            subst hkj
            obtain rfl := Option.some.inj hc
            exact ⟨mx_pure rfl hcal hargs e2 e4, rfl⟩
          · simp at hc
        | _ => simp [copD] at hc
      | _ => simp [copD] at hc
    split at h4
    · rename_i x y hcal hargs
      simp only [Option.some.injEq, Prod.mk.injEq, and_true] at h4
      exact hmx true x y hcal hargs h4.symm
    · rename_i x y hcal hargs
      simp only [Option.some.injEq, Prod.mk.injEq, and_true] at h4
      exact hmx false x y hcal hargs h4.symm
    · simp at h4
  · simp at h4
theorem toC_ok {o : POp} {as bs : List At} {c : Cop} (h : toC P o as = some (c, bs)) {env ds : List D} {d : D} (hd : atsD env bs = some ds) (hc : copD c ds = some d) : ∃ ds0, atsD env as = some ds0 ∧ popD P o ds0 = some d := by
  have free : ∀ {o : POp}, (if freeP o then some (Cop.pop o, as) else none) = some (c, bs) → ∃ ds0, atsD env as = some ds0 ∧ popD P o ds0 = some d := by
    intro o h
    split at h
    · rename_i hf
      simp only [Option.some.injEq, Prod.mk.injEq] at h
      obtain ⟨rfl, rfl⟩ := h
      simp only [copD, hf, if_true] at hc
      exact ⟨ds, hd, by rw [free_eq hf]; exact hc⟩
    · simp at h
  unfold toC at h
  split at h
  · split at h
    · rename_i hb
      simp only [Bool.and_eq_true] at hb
      obtain ⟨l, h3, h4⟩ := Option.bind_eq_some_iff.1 h
      exact prim_ok hb.1 hb.2 h3 h4 hd hc
    · simp at h
  · rename_i o' t ts
    split at h
    · rename_i s d' s1 s2
      split at h
      · rename_i hs
        obtain rfl := Nat.eq_of_beq_eq_true hs
        simp only [Option.some.injEq, Prod.mk.injEq] at h
        obtain ⟨rfl, rfl⟩ := h
        refine ⟨ds, hd, ?_⟩
        match ds, hc with
        | [.lst l], hc =>
          have hn : opPure P (tmOf [s1] [.lst l]) ⟨none, .convert s d' (.tmp s1), t, "", #[], none⟩ = none := by
            refine opPure_none (x := .tmp s1) (by simp [Op.operands]) ?_
            have : (tmOf [s1] [D.lst l])[s1]? = some (.dat (.lst l)) := by
              have := putTm_at (f := fun _ => D.lst l) (ts := [s1]) (l := List.replicate (maxN [s1]) U.undef) (t := s1) (fun s hs => by rw [List.length_replicate]; exact maxN_lt hs) (by simp)
              simpa [tmOf] using this
            simp only [evalU, this, Option.bind_some]
            rfl
          simp only [popD, hn, lstOf, Option.bind_some]
          exact hc
        | [.int _ _], hc => simp [copD] at hc
        | [.bool _], hc => simp [copD] at hc
        | [.str _], hc => simp [copD] at hc
        | [.nil], hc => simp [copD] at hc
        | [.agg _], hc => simp [copD] at hc
        | [.fp _], hc => simp [copD] at hc
        | [.fn _ _], hc => simp [copD] at hc
        | [.nul _], hc => simp [copD] at hc
        | [.sym _], hc => simp [copD] at hc
        | [], hc => simp [copD] at hc
        | _ :: _ :: _, hc => simp [copD] at hc
      · simp at h
    · simp at h
  · rename_i sl neg o' t ts
    split at h
    · rename_i hnil
      simp only [Option.some.injEq, Prod.mk.injEq] at h
      obtain ⟨rfl, rfl⟩ := h
      refine ⟨ds, hd, ?_⟩
      by_cases hz : sl = true ∧ ds = [.nil]
      · obtain ⟨rfl, rfl⟩ := hz
        simp only [Bool.not_true, Bool.false_or] at hnil
        unfold nilOk at hnil
        simp only [copD, Option.some.injEq] at hc
        subst hc
        split at hnil
        · rename_i b _ _ hb
          have : b = !neg := by simpa using hnil
          subst this
          simp only [popD, hb]
          rfl
        · simp at hnil
      · unfold copD at hc
        split at hc <;> simp_all [popD]
    · simp at h
  · rename_i t
    split at h
    · rename_i kt et h1
      split at h
      · rename_i z h2 h3
        simp only [Option.some.injEq, Prod.mk.injEq] at h
        obtain ⟨rfl, rfl⟩ := h
        refine ⟨ds, hd, ?_⟩
        unfold copD at hc
        split at hc <;> try (simp at *; done)
        rename_i z' l s heq
        simp only [Cop.mget.injEq] at heq
        subst heq
        cases hl : lookM s.data.toList l with
        | none => simp [hl] at hc
        | some r =>
          simp only [popD, lookM_pure h1 h2 h3 hl false, Bool.false_eq_true, if_false]
          rw [hl] at hc
          cases r <;> exact hc
      · simp at h
    · simp at h
  · rename_i t
    split at h
    · rename_i kt et h1
      split at h
      · rename_i z h2 h3
        simp only [Option.some.injEq, Prod.mk.injEq] at h
        obtain ⟨rfl, rfl⟩ := h
        refine ⟨ds, hd, ?_⟩
        unfold copD at hc
        split at hc <;> try (simp at *; done)
        rename_i l s heq
        obtain ⟨r, hr, rfl⟩ := Option.map_eq_some_iff.1 hc
        simp only [popD, lookM_pure h1 h2 h3 hr true, if_true]
      · simp at h
    · simp at h
  · rename_i t
    split at h
    · rename_i kt et h1
      split at h
      · rename_i h2
        simp only [Option.some.injEq, Prod.mk.injEq] at h
        obtain ⟨rfl, rfl⟩ := h
        refine ⟨ds, hd, ?_⟩
        unfold copD at hc
        split at hc <;> try (simp at *; done)
        rename_i l s x heq
        obtain ⟨r, hr, rfl⟩ := Option.map_eq_some_iff.1 hc
        obtain ⟨ob, k1, k2⟩ := putM_pure h1 h2 hr
        simp only [popD, k1, k2, asDat_map, Option.map_some]
      · simp at h
    · simp at h
  · exact free h
end
end Go.Proofs.Ytjofhegodknmaaa.W
namespace Go.Proofs.Ytjofhegodknmaaa.W
open Go Go.RowKit
open V hiding At
inductive T where
  | fin (x : X) (as : List At)
  | op (o : Cop) (as : List At) (k : T)
  | call (f : Nat) (as : List At) (n : Nat) (k : T)
  | callv (fl : List Nat) (g : At) (as : List At) (n : Nat) (k : T)
  | ite (a : At) (t e : T)
  | bind (x : X) (t : T) (n : Nat) (k : T)
  | loop (as : List At) (b : T)
instance : Inhabited T := ⟨.fin .ret []⟩
def toT (P : Program) : E → Option T
  | .leaf _ _ _ => none
  | .fin x as => some (.fin x as)
  | .step (.op o as) k => match toC P o as, toT P k with
    | some (c, bs), some t => some (.op c bs t)
    | _, _ => none
  | .step (.call f as n) k => (toT P k).map (.call f as n)
  | .step (.callv fl g as n) k => (toT P k).map (.callv fl g as n)
  | .ite a t e => match toT P t, toT P e with
    | some t, some e => some (.ite a t e)
    | _, _ => none
  | .bind x t n k => match toT P t, toT P k with
    | some t, some k => some (.bind x t n k)
    | _, _ => none
  | .loop as b => (toT P b).map (.loop as)
structure FnT where
  t : Nat → Option (Nat × T)
  x : Nat → List D → Option (List D)
mutual
inductive R (F : FnT) : T → List D → X → List D → Prop
  | fin {x : X} {as : List At} {env ds : List D} (h : atsD env as = some ds) : R F (.fin x as) env x ds
  | op {o : Cop} {as : List At} {k : T} {env ds rs : List D} {d : D} {x : X} (h : atsD env as = some ds) (h1 : copD o ds = some d) (h2 : R F k (env ++ [d]) x rs) : R F (.op o as k) env x rs
  | call {f n : Nat} {as : List At} {k : T} {env ds qs rs : List D} {x : X} (h : atsD env as = some ds) (h1 : Cv F f ds qs) (h2 : qs.length = n) (h3 : R F k (env ++ qs) x rs) : R F (.call f as n k) env x rs
  | callv {f n : Nat} {fl : List Nat} {g : At} {as : List At} {k : T} {env ds caps qs rs : List D} {x : X} (h : atD env g = some (.fn f caps)) (h0 : atsD env as = some ds) (hf : fl.contains f = true) (h1 : Cv F f (ds ++ caps) qs) (h2 : qs.length = n) (h3 : R F k (env ++ qs) x rs) : R F (.callv fl g as n k) env x rs
  | iteT {a : At} {t e : T} {env rs : List D} {x : X} (h : atD env a = some (.bool true)) (h1 : R F t env x rs) : R F (.ite a t e) env x rs
  | iteF {a : At} {t e : T} {env rs : List D} {x : X} (h : atD env a = some (.bool false)) (h1 : R F e env x rs) : R F (.ite a t e) env x rs
  | bindO {x y : X} {t k : T} {n : Nat} {env qs rs : List D} (h : R F t env x qs) (hn : qs.length = n) (h1 : R F k (env ++ qs) y rs) : R F (.bind x t n k) env y rs
  | bindP {x y : X} {t k : T} {n : Nat} {env rs : List D} (h : R F t env y rs) (hn : y ≠ x) : R F (.bind x t n k) env y rs
  | loop {as : List At} {b : T} {env ds rs : List D} {x : X} (h : atsD env as = some ds) (h1 : L F b env ds x rs) : R F (.loop as b) env x rs
inductive L (F : FnT) : T → List D → List D → X → List D → Prop
  | more {b : T} {env ds ds' rs : List D} {x : X} (h : R F b (env ++ ds) .normal ds') (hn : ds'.length = ds.length) (h1 : L F b env ds' x rs) : L F b env ds x rs
  | out {b : T} {env ds rs : List D} {x : X} (h : R F b (env ++ ds) x rs) (hn : x ≠ .normal) : L F b env ds x rs
inductive Cv (F : FnT) : Nat → List D → List D → Prop
  | tree {f n : Nat} {t : T} {ds rs : List D} (h : F.t f = some (n, t)) (hn : ds.length = n) (h1 : R F t ds .ret rs) : Cv F f ds rs
  | known {f : Nat} {ds rs : List D} (h : F.t f = none) (h1 : F.x f ds = some rs) : Cv F f ds rs
end
structure Are (P : Program) (fs : Fns) (F : FnT) : Prop where
  t : ∀ f n t, F.t f = some (n, t) → ∃ e, fs.t f = some (n, e) ∧ toT P e = some t
  n : ∀ f, F.t f = none → fs.t f = none
  x : ∀ f ds rs, F.x f ds = some rs → fs.x f ds = some rs
section
variable {P : Program} {fs : Fns} {F : FnT}
theorem ev_up {k j : Nat} {e : E} {env : List D} {o : Out} (h : ev P fs k e env = some o) (hj : k ≤ j) : ev P fs j e env = some o := (mono_all k).1 j e env o hj h
theorem lev_up {k j : Nat} {b : E} {env ds : List D} {o : Out} (h : lev P fs k b env ds = some o) (hj : k ≤ j) : lev P fs j b env ds = some o := (mono_all k).2.1 j b env ds o hj h
theorem cev_up {k j : Nat} {f : Nat} {ds rs : List D} (h : cev P fs k f ds = some rs) (hj : k ≤ j) : cev P fs j f ds = some rs := (mono_all k).2.2.2 j f ds rs hj h
theorem bnat (n : Nat) : Nat.beq n n = true := Nat.beq_refl n
theorem R_sound (hA : Are P fs F) {t : T} {env : List D} {x : X} {rs : List D} (h : R F t env x rs) : ∀ e, toT P e = some t → ∃ k, ev P fs k e env = some (.fin x rs) := by
  refine R.rec (F := F) (motive_1 := fun t env x rs _ => ∀ e, toT P e = some t → ∃ k, ev P fs k e env = some (.fin x rs)) (motive_2 := fun b env ds x rs _ => ∀ e, toT P e = some b → ∃ k, lev P fs k e env ds = some (.fin x rs)) (motive_3 := fun f ds rs _ => ∃ k, cev P fs k f ds = some rs) ?_ ?_ ?_ ?_ ?_ ?_ ?_ ?_ ?_ ?_ ?_ ?_ ?_ h
  · intro x as env ds h e he
    cases e with
    | fin y bs =>
      simp only [toT, Option.some.injEq, T.fin.injEq] at he
      obtain ⟨rfl, rfl⟩ := he
      exact ⟨1, by simp [ev, h]⟩
    | step s k => cases s <;> simp only [toT] at he <;> (try split at he) <;> simp at he
    | leaf => simp [toT] at he
    | ite => simp only [toT] at he; split at he <;> simp at he
    | bind => simp only [toT] at he; split at he <;> simp at he
    | loop => simp [toT] at he
  · intro o as t env ds rs d x h h1 h2 ih e he
    cases e with
    | step s k =>
      cases s with
      | op o' as' =>
        simp only [toT] at he
        split at he
        · rename_i c bs t' hc ht
          simp only [Option.some.injEq, T.op.injEq] at he
          obtain ⟨rfl, rfl, rfl⟩ := he
          obtain ⟨ds0, g1, g2⟩ := toC_ok hc h h1
          obtain ⟨j, hj⟩ := ih k ht
          refine ⟨j + 2, ?_⟩
          have hs : stp P fs (j + 1) (.op o' as') env = some [d] := by simp [stp, g1, g2]
          simp only [ev, hs]
          exact ev_up hj (Nat.le_succ _)
        · simp at he
      | call => simp [toT] at he
      | callv => simp [toT] at he
    | leaf => simp [toT] at he
    | fin => simp [toT] at he
    | ite => simp only [toT] at he; split at he <;> simp at he
    | bind => simp only [toT] at he; split at he <;> simp at he
    | loop => simp [toT] at he
  · intro f n as t env ds qs rs x h h1 h2 h3 ih1 ih2 e he
    cases e with
    | step s k =>
      cases s with
      | call f' as' n' =>
        simp only [toT] at he
        obtain ⟨t', ht, hh⟩ := Option.map_eq_some_iff.1 he
        simp only [T.call.injEq] at hh
        obtain ⟨rfl, rfl, rfl, rfl⟩ := hh
        obtain ⟨i, hi⟩ := ih1
        obtain ⟨j, hj⟩ := ih2 k ht
        refine ⟨max i j + 2, ?_⟩
        have hs : stp P fs (max i j + 1) (.call f' as' n') env = some qs := by
          simp only [stp, h, cev_up hi (Nat.le_max_left i j), h2, bnat, if_true]
        simp only [ev, hs]
        exact ev_up hj (Nat.le_trans (Nat.le_max_right i j) (Nat.le_succ _))
      | op => simp only [toT] at he; split at he <;> simp at he
      | callv => simp [toT] at he
    | leaf => simp [toT] at he
    | fin => simp [toT] at he
    | ite => simp only [toT] at he; split at he <;> simp at he
    | bind => simp only [toT] at he; split at he <;> simp at he
    | loop => simp [toT] at he
  · intro f n fl g as t env ds caps qs rs x h h0 hf h1 h2 h3 ih1 ih2 e he
    cases e with
    | step s k =>
      cases s with
      | callv fl' g' as' n' =>
        simp only [toT] at he
        obtain ⟨t', ht, hh⟩ := Option.map_eq_some_iff.1 he
        simp only [T.callv.injEq] at hh
        obtain ⟨rfl, rfl, rfl, rfl, rfl⟩ := hh
        obtain ⟨i, hi⟩ := ih1
        obtain ⟨j, hj⟩ := ih2 k ht
        refine ⟨max i j + 2, ?_⟩
        have hs : stp P fs (max i j + 1) (.callv fl' g' as' n') env = some qs := by
          simp only [stp, h, h0, hf, cev_up hi (Nat.le_max_left i j), h2, bnat, if_true]
        simp only [ev, hs]
        exact ev_up hj (Nat.le_trans (Nat.le_max_right i j) (Nat.le_succ _))
      | op => simp only [toT] at he; split at he <;> simp at he
      | call => simp [toT] at he
    | leaf => simp [toT] at he
    | fin => simp [toT] at he
    | ite => simp only [toT] at he; split at he <;> simp at he
    | bind => simp only [toT] at he; split at he <;> simp at he
    | loop => simp [toT] at he
  · intro a t u env rs x h h1 ih e he
    cases e with
    | ite a' t' u' =>
      simp only [toT] at he
      split at he
      · rename_i t1 u1 ht hu
        simp only [Option.some.injEq, T.ite.injEq] at he
        obtain ⟨rfl, rfl, rfl⟩ := he
        obtain ⟨j, hj⟩ := ih t' ht
        exact ⟨j + 1, by simp only [ev, h]; exact hj⟩
      · simp at he
    | leaf => simp [toT] at he
    | fin => simp [toT] at he
    | step s k => cases s <;> simp only [toT] at he <;> (try split at he) <;> simp at he
    | bind => simp only [toT] at he; split at he <;> simp at he
    | loop => simp [toT] at he
  · intro a t u env rs x h h1 ih e he
    cases e with
    | ite a' t' u' =>
      simp only [toT] at he
      split at he
      · rename_i t1 u1 ht hu
        simp only [Option.some.injEq, T.ite.injEq] at he
        obtain ⟨rfl, rfl, rfl⟩ := he
        obtain ⟨j, hj⟩ := ih u' hu
        exact ⟨j + 1, by simp only [ev, h]; exact hj⟩
      · simp at he
    | leaf => simp [toT] at he
    | fin => simp [toT] at he
    | step s k => cases s <;> simp only [toT] at he <;> (try split at he) <;> simp at he
    | bind => simp only [toT] at he; split at he <;> simp at he
    | loop => simp [toT] at he
  · intro x y t k n env qs rs h hn h1 ih1 ih2 e he
    cases e with
    | bind x' t' n' k' =>
      simp only [toT] at he
      split at he
      · rename_i t1 u1 ht hu
        simp only [Option.some.injEq, T.bind.injEq] at he
        obtain ⟨rfl, rfl, rfl, rfl⟩ := he
        obtain ⟨i, hi⟩ := ih1 t' ht
        obtain ⟨j, hj⟩ := ih2 k' hu
        refine ⟨max i j + 1, ?_⟩
        simp only [ev, ev_up hi (Nat.le_max_left i j), if_true, hn, bnat]
        exact ev_up hj (Nat.le_max_right i j)
      · simp at he
    | leaf => simp [toT] at he
    | fin => simp [toT] at he
    | step s k => cases s <;> simp only [toT] at he <;> (try split at he) <;> simp at he
    | ite => simp only [toT] at he; split at he <;> simp at he
    | loop => simp [toT] at he
  · intro x y t k n env rs h hn ih e he
    cases e with
    | bind x' t' n' k' =>
      simp only [toT] at he
      split at he
      · rename_i t1 u1 ht hu
        simp only [Option.some.injEq, T.bind.injEq] at he
        obtain ⟨rfl, rfl, rfl, rfl⟩ := he
        obtain ⟨i, hi⟩ := ih t' ht
        exact ⟨i + 1, by simp only [ev, hi, if_neg hn]⟩
      · simp at he
    | leaf => simp [toT] at he
    | fin => simp [toT] at he
    | step s k => cases s <;> simp only [toT] at he <;> (try split at he) <;> simp at he
    | ite => simp only [toT] at he; split at he <;> simp at he
    | loop => simp [toT] at he
  · intro as b env ds rs x h h1 ih e he
    cases e with
    | loop as' b' =>
      simp only [toT] at he
      obtain ⟨b1, hb, hh⟩ := Option.map_eq_some_iff.1 he
      simp only [T.loop.injEq] at hh
      obtain ⟨rfl, rfl⟩ := hh
      obtain ⟨i, hi⟩ := ih b' hb
      exact ⟨i + 1, by simp only [ev, h]; exact hi⟩
    | leaf => simp [toT] at he
    | fin => simp [toT] at he
    | step s k => cases s <;> simp only [toT] at he <;> (try split at he) <;> simp at he
    | ite => simp only [toT] at he; split at he <;> simp at he
    | bind => simp only [toT] at he; split at he <;> simp at he
  · intro b env ds ds' rs x h hn h1 ih1 ih2 e he
    obtain ⟨i, hi⟩ := ih1 e he
    obtain ⟨j, hj⟩ := ih2 e he
    refine ⟨max i j + 1, ?_⟩
    simp only [lev, ev_up hi (Nat.le_max_left i j), hn, bnat, if_true]
    exact lev_up hj (Nat.le_max_right i j)
  · intro b env ds rs x h hn ih e he
    obtain ⟨i, hi⟩ := ih e he
    refine ⟨i + 1, ?_⟩
    cases x with
    | normal => exact absurd rfl hn
    | ret => simp only [lev, hi]
    | exit a => simp only [lev, hi]
  · intro f n t ds rs h hn h1 ih
    obtain ⟨e, g1, g2⟩ := hA.t f n t h
    obtain ⟨k, hk⟩ := ih e g2
    exact ⟨k + 1, by simp only [cev, g1, hn, bnat, if_true, hk]⟩
  · intro f ds rs h h1
    exact ⟨1, by simp only [cev, hA.n f h]; exact hA.x f ds rs h1⟩
theorem Cv_sound (hA : Are P fs F) {f : Nat} {ds rs : List D} (h : Cv F f ds rs) : ∃ k, cev P fs k f ds = some rs := by
  cases h with
  | tree h hn h1 =>
    obtain ⟨e, g1, g2⟩ := hA.t _ _ _ h
    obtain ⟨k, hk⟩ := R_sound hA h1 e g2
    exact ⟨k + 1, by simp only [cev, g1, hn, bnat, if_true, hk]⟩
  | known h h1 => exact ⟨1, by simp only [cev, hA.n f h]; exact hA.x f ds rs h1⟩
end
end Go.Proofs.Ytjofhegodknmaaa.W
namespace Go.Proofs.Ytjofhegodknmaaa.W
open Go Go.RowKit
open V hiding At
def beqF : POp → POp → Bool
  | .cell a b, .cell c d => Nat.beq a c && Nat.beq b d
  | .sub a b c, .sub x y z => Nat.beq a x && Nat.beq b y && Nat.beq c z
  | .mkAgg, .mkAgg => true
  | .mkFp, .mkFp => true
  | .mkFn a, .mkFn b => Nat.beq a b
  | .mkLst a b, .mkLst c d => Nat.beq a c && (b == d)
  | .cat a b c, .cat x y z => Nat.beq a x && Nat.beq b y && (c == z)
  | .elt a, .elt b => Nat.beq a b
  | .upd a b c, .upd x y z => Nat.beq a x && Nat.beq b y && (c == z)
  | .len, .len => true
  | .slc a b c, .slc x y z => Nat.beq a x && (b == y) && (c == z)
  | .zeros a b c, .zeros x y z => beqDs a x && Nat.beq b y && (c == z)
  | .fpOf a, .fpOf b => Nat.beq a b
  | .deref a, .deref b => Nat.beq a b
  | .isPtr, .isPtr => true
  | .room a b, .room x y => Nat.beq a x && Nat.beq b y
  | .mlen, .mlen => true
  | .addN, .addN => true
  | .clr a b c, .clr x y z => Nat.beq a x && beqDs b y && (c == z)
  | _, _ => false
theorem beqF_eq {a b : POp} (h : beqF a b = true) : a = b := by
  cases a <;> cases b <;> simp only [beqF, Bool.and_eq_true, reduceCtorEq, beq_iff_eq] at h <;> first
    | rfl
    | (obtain ⟨⟨h1, h2⟩, h3⟩ := h
       first
        | (rw [Nat.eq_of_beq_eq_true h1, Nat.eq_of_beq_eq_true h2, Nat.eq_of_beq_eq_true h3])
        | (rw [Nat.eq_of_beq_eq_true h1, Nat.eq_of_beq_eq_true h2, h3])
        | (rw [Nat.eq_of_beq_eq_true h1, h2, h3])
        | (rw [beqDs_eq _ _ h1, Nat.eq_of_beq_eq_true h2, h3])
        | (rw [Nat.eq_of_beq_eq_true h1, beqDs_eq _ _ h2, h3]))
    | (obtain ⟨h1, h2⟩ := h
       first
        | (rw [Nat.eq_of_beq_eq_true h1, Nat.eq_of_beq_eq_true h2])
        | (rw [Nat.eq_of_beq_eq_true h1, h2]))
    | (rw [Nat.eq_of_beq_eq_true h])
    | (simp at h; done)
def beqC : Cop → Cop → Bool
  | .bin a, .bin b => decide (a = b)
  | .no, .no => true
  | .conv a, .conv b => decide (a = b)
  | .mx a, .mx b => a == b
  | .text, .text => true
  | .isNil a b, .isNil c d => (a == c) && (b == d)
  | .mget a, .mget b => beqD a b
  | .mhas, .mhas => true
  | .mput, .mput => true
  | .slen, .slen => true
  | .sidx, .sidx => true
  | .ssl a b, .ssl c d => (a == c) && (b == d)
  | .neg, .neg => true
  | .pop a, .pop b => beqF a b
  | _, _ => false
theorem beqC_eq {a b : Cop} (h : beqC a b = true) : a = b := by
  cases a <;> cases b <;> simp only [beqC, Bool.and_eq_true, reduceCtorEq, beq_iff_eq, decide_eq_true_eq] at h <;> first
    | rfl
    | (rw [h])
    | (rw [h.1, h.2])
    | (rw [beqD_eq _ _ h])
    | (rw [beqF_eq h])
    | (simp at h; done)
def beqXx : X → X → Bool
  | .normal, .normal => true
  | .ret, .ret => true
  | .exit a, .exit b => Nat.beq a b
  | _, _ => false
theorem beqXx_eq {a b : X} (h : beqXx a b = true) : a = b := by
  cases a <;> cases b <;> simp only [beqXx, reduceCtorEq] at h <;> first | rfl | (rw [Nat.eq_of_beq_eq_true h]) | (simp at h; done)
def beqT2 : T → T → Bool
  | .fin x as, .fin y bs => beqXx x y && beqAs as bs
  | .op o as k, .op p bs q => beqC o p && beqAs as bs && beqT2 k q
  | .call f as n k, .call g bs m q => Nat.beq f g && beqAs as bs && Nat.beq n m && beqT2 k q
  | .callv fl g as n k, .callv fl' g' bs m q => beqNats fl fl' && beqA g g' && beqAs as bs && Nat.beq n m && beqT2 k q
  | .ite a t e, .ite b u f => beqA a b && beqT2 t u && beqT2 e f
  | .bind x t n k, .bind y u m q => beqXx x y && beqT2 t u && Nat.beq n m && beqT2 k q
  | .loop as b, .loop bs c => beqAs as bs && beqT2 b c
  | _, _ => false
theorem beqT2_eq : ∀ {a b : T}, beqT2 a b = true → a = b
  | .fin x as, b, h => by
    cases b <;> simp only [beqT2, Bool.and_eq_true, reduceCtorEq] at h
    rw [beqXx_eq h.1, beqAs_eq h.2]
  | .op o as k, b, h => by
    cases b <;> simp only [beqT2, Bool.and_eq_true, reduceCtorEq] at h
    rw [beqC_eq h.1.1, beqAs_eq h.1.2, beqT2_eq h.2]
  | .call f as n k, b, h => by
    cases b <;> simp only [beqT2, Bool.and_eq_true, reduceCtorEq] at h
    rw [Nat.eq_of_beq_eq_true h.1.1.1, beqAs_eq h.1.1.2, Nat.eq_of_beq_eq_true h.1.2, beqT2_eq h.2]
  | .callv fl g as n k, b, h => by
    cases b <;> simp only [beqT2, Bool.and_eq_true, reduceCtorEq] at h
    rw [beqNats_eq h.1.1.1.1, beqA_eq h.1.1.1.2, beqAs_eq h.1.1.2, Nat.eq_of_beq_eq_true h.1.2, beqT2_eq h.2]
  | .ite a t e, b, h => by
    cases b <;> simp only [beqT2, Bool.and_eq_true, reduceCtorEq] at h
    rw [beqA_eq h.1.1, beqT2_eq h.1.2, beqT2_eq h.2]
  | .bind x t n k, b, h => by
    cases b <;> simp only [beqT2, Bool.and_eq_true, reduceCtorEq] at h
    rw [beqXx_eq h.1.1.1, beqT2_eq h.1.1.2, Nat.eq_of_beq_eq_true h.1.2, beqT2_eq h.2]
  | .loop as c, b, h => by
    cases b <;> simp only [beqT2, Bool.and_eq_true, reduceCtorEq] at h
    rw [beqAs_eq h.1, beqT2_eq h.2]
def trOf (P : Program) (C : Cfg) (f : Nat) : Option (Nat × T) := (sfun P C f).bind fun r => (toT P r.2).map fun t => (r.1, t)
def isTr (P : Program) (C : Cfg) (f n : Nat) (t : T) : Bool :=
  match trOf P C f with
  | some (m, u) => Nat.beq m n && beqT2 u t
  | none => false
theorem isTr_ok {P : Program} {C : Cfg} {f n : Nat} {t : T} (h : isTr P C f n t = true) : ∃ e, sfun P C f = some (n, e) ∧ toT P e = some t := by
  unfold isTr at h
  split at h
  · rename_i m u hu
    simp only [Bool.and_eq_true] at h
    obtain rfl := Nat.eq_of_beq_eq_true h.1
    obtain rfl := beqT2_eq h.2
    obtain ⟨⟨m', e⟩, h1, h2⟩ := Option.bind_eq_some_iff.1 hu
    obtain ⟨t', h3, h4⟩ := Option.map_eq_some_iff.1 h2
    simp only [Prod.mk.injEq] at h4
    obtain ⟨rfl, rfl⟩ := h4
    exact ⟨e, h1, h3⟩
  · simp at h
def fnT (l : List (Nat × Nat × T)) (x : Nat → List D → Option (List D)) : FnT := ⟨fun f => l.lookup f, x⟩
def fnS (P : Program) (C : Cfg) (l : List (Nat × Nat × T)) (x : Nat → List D → Option (List D)) : Fns := ⟨fun f => if (l.lookup f).isSome then sfun P C f else none, x⟩
theorem are_of {P : Program} {C : Cfg} {l : List (Nat × Nat × T)} {x : Nat → List D → Option (List D)} (h : ∀ p ∈ l, isTr P C p.1 p.2.1 p.2.2 = true) : Are P (fnS P C l x) (fnT l x) := by
  refine ⟨fun f n t hf => ?_, fun f hf => ?_, fun f ds rs hx => hx⟩
  · have hf' : l.lookup f = some (n, t) := hf
    have hm := mem_lookup hf'
    obtain ⟨e, h1, h2⟩ := isTr_ok (h _ hm)
    exact ⟨e, by simp only [fnS, hf', Option.isSome_some, if_true]; exact h1, h2⟩
  · have hf' : l.lookup f = none := hf
    simp [fnS, hf']
theorem Cv_ok {P : Program} {C : Cfg} (hN : Named P) (hR : RegsP P) (hm : P.follows .mixedOrders = true) (hC : ∀ f, C.clones.contains f = true → Clones P f) (hS : ∀ f, C.clones.contains f = true → ∃ sg, C.sig f = some sg ∧ sg.io = false)
    {l : List (Nat × Nat × T)} {x : Nat → List D → Option (List D)} (h : ∀ p ∈ l, isTr P C p.1 p.2.1 p.2.2 = true) (hx : ∀ f ds rs, x f ds = some rs → FnOk P C f ds rs ∧ isBody P f = true) {f : Nat} {ds rs : List D} (hv : Cv (fnT l x) f ds rs) : FnOk P C f ds rs := by
  obtain ⟨k, hk⟩ := Cv_sound (are_of (C := C) h) hv
  refine trees_ok hN hR hm hC hS (fun f n t hf => ?_) hx hk
  simp only [fnS] at hf
  split at hf
  · exact hf
  · simp at hf
mutual
def evT (F : FnT) : Nat → T → List D → Option (X × List D)
  | 0, _, _ => none
  | k + 1, t, env =>
    match t with
    | .fin x as => (atsD env as).map fun ds => (x, ds)
    | .op o as q => match (atsD env as).bind (copD o) with
      | some d => evT F k q (env ++ [d])
      | none => none
    | .call f as n q => match atsD env as with
      | some ds => match cvT F k f ds with
        | some rs => if Nat.beq rs.length n then evT F k q (env ++ rs) else none
        | none => none
      | none => none
    | .callv fl g as n q => match atD env g, atsD env as with
      | some (.fn f caps), some ds => if fl.contains f then match cvT F k f (ds ++ caps) with
          | some rs => if Nat.beq rs.length n then evT F k q (env ++ rs) else none
          | none => none
        else none
      | _, _ => none
    | .ite a t e => match atD env a with
      | some (.bool true) => evT F k t env
      | some (.bool false) => evT F k e env
      | _ => none
    | .bind x t n q => match evT F k t env with
      | some (y, ds) => if beqXx y x then (if Nat.beq ds.length n then evT F k q (env ++ ds) else none) else some (y, ds)
      | none => none
    | .loop as b => match atsD env as with
      | some ds => lvT F k b env ds
      | none => none
def lvT (F : FnT) : Nat → T → List D → List D → Option (X × List D)
  | 0, _, _, _ => none
  | k + 1, b, env, ds =>
    match evT F k b (env ++ ds) with
    | some (.normal, ds') => if Nat.beq ds'.length ds.length then lvT F k b env ds' else none
    | r => r
def cvT (F : FnT) : Nat → Nat → List D → Option (List D)
  | 0, _, _ => none
  | k + 1, f, ds =>
    match F.t f with
    | some (n, t) => if Nat.beq ds.length n then match evT F k t ds with
        | some (.ret, rs) => some rs
        | _ => none
      else none
    | none => F.x f ds
end
theorem run_ok {F : FnT} : ∀ (k : Nat), (∀ t env x rs, evT F k t env = some (x, rs) → R F t env x rs) ∧ (∀ b env ds x rs, lvT F k b env ds = some (x, rs) → L F b env ds x rs) ∧ ∀ f ds rs, cvT F k f ds = some rs → Cv F f ds rs
  | 0 => ⟨fun t env x rs h => by simp [evT] at h, fun b env ds x rs h => by simp [lvT] at h, fun f ds rs h => by simp [cvT] at h⟩
  | k + 1 => by
    obtain ⟨i1, i2, i3⟩ := run_ok (F := F) k
    refine ⟨fun t env x rs h => ?_, fun b env ds x rs h => ?_, fun f ds rs h => ?_⟩
    · cases t with
      | fin y as =>
        simp only [evT] at h
        obtain ⟨ds, h1, h2⟩ := Option.map_eq_some_iff.1 h
        simp only [Prod.mk.injEq] at h2
        obtain ⟨rfl, rfl⟩ := h2
        exact .fin h1
      | op o as q =>
        simp only [evT] at h
        split at h
        · rename_i d hd
          obtain ⟨ds, h1, h2⟩ := Option.bind_eq_some_iff.1 hd
          exact .op h1 h2 (i1 _ _ _ _ h)
        · simp at h
      | call f as n q =>
        simp only [evT] at h
        split at h
        · rename_i ds hd
          split at h
          · rename_i qs hq
            split at h
            · rename_i hn
              exact .call hd (i3 _ _ _ hq) (Nat.eq_of_beq_eq_true hn) (i1 _ _ _ _ h)
            · simp at h
          · simp at h
        · simp at h
      | callv fl g as n q =>
        simp only [evT] at h
        split at h
        · rename_i f caps ds hg hd
          split at h
          · rename_i hf
            split at h
            · rename_i qs hq
              split at h
              · rename_i hn
                exact .callv hg hd hf (i3 _ _ _ hq) (Nat.eq_of_beq_eq_true hn) (i1 _ _ _ _ h)
              · simp at h
            · simp at h
          · simp at h
        · simp at h
      | ite a t e =>
        simp only [evT] at h
        split at h
        · rename_i ha
          exact .iteT ha (i1 _ _ _ _ h)
        · rename_i ha
          exact .iteF ha (i1 _ _ _ _ h)
        · simp at h
      | bind y t n q =>
        simp only [evT] at h
        split at h
        · rename_i z ds hz
          split at h
          · rename_i hy
            obtain rfl := beqXx_eq hy
            split at h
            · rename_i hn
              exact .bindO (i1 _ _ _ _ hz) (Nat.eq_of_beq_eq_true hn) (i1 _ _ _ _ h)
            · simp at h
          · rename_i hy
            simp only [Option.some.injEq, Prod.mk.injEq] at h
            obtain ⟨rfl, rfl⟩ := h
            refine .bindP (i1 _ _ _ _ hz) fun e => hy ?_
            subst e
            cases z <;> simp [beqXx]
        · simp at h
      | loop as b =>
        simp only [evT] at h
        split at h
        · rename_i ds hd
          exact .loop hd (i2 _ _ _ _ _ h)
        · simp at h
    · simp only [lvT] at h
      split at h
      · rename_i ds' hd
        split at h
        · rename_i hn
          exact .more (i1 _ _ _ _ hd) (Nat.eq_of_beq_eq_true hn) (i2 _ _ _ _ _ h)
        · simp at h
      · rename_i hn
        refine .out (i1 _ _ _ _ h) fun e => ?_
        subst e
        exact hn _ h
    · simp only [cvT] at h
      split at h
      · rename_i n t hf
        split at h
        · rename_i hn
          split at h
          · rename_i rs' he
            obtain rfl := Option.some.inj h
            exact .tree hf (Nat.eq_of_beq_eq_true hn) (i1 _ _ _ _ he)
          · simp at h
        · simp at h
      · rename_i hf
        exact .known hf h
end Go.Proofs.Ytjofhegodknmaaa.W
namespace Go.Proofs.Ytjofhegodknmaaa.W
open Go Go.RowKit
open V hiding At
theorem wrap64 {n : Int} (h1 : -9223372036854775808 ≤ n) (h2 : n ≤ 9223372036854775807) : IntKind.i64.wrap n = n := by
  rw [wr_i64]; omega
theorem lssT {m n : Int} (h : m < n) : copD (.bin .lss) [.int .i64 m, .int .i64 n] = some (.bool true) := by simp [copD, binD, shiftOp, cmpI, h]
theorem lssF {m n : Int} (h : n ≤ m) : copD (.bin .lss) [.int .i64 m, .int .i64 n] = some (.bool false) := by simp [copD, binD, shiftOp, cmpI, h]
theorem leqT {m n : Int} (h : m ≤ n) : copD (.bin .leq) [.int .i64 m, .int .i64 n] = some (.bool true) := by simp [copD, binD, shiftOp, cmpI, h]
theorem leqF {m n : Int} (h : n < m) : copD (.bin .leq) [.int .i64 m, .int .i64 n] = some (.bool false) := by simp [copD, binD, shiftOp, cmpI, h]
theorem geqF {m n : Int} (h : m < n) : copD (.bin .geq) [.int .i64 m, .int .i64 n] = some (.bool false) := by simp [copD, binD, shiftOp, cmpI, h]
theorem eqlT {m n : Int} (h : m = n) : copD (.bin .eql) [.int .i64 m, .int .i64 n] = some (.bool true) := by simp [copD, binD, shiftOp, cmpI, h]
theorem eqlF {m n : Int} (h : m ≠ n) : copD (.bin .eql) [.int .i64 m, .int .i64 n] = some (.bool false) := by simp [copD, binD, shiftOp, cmpI, h]
theorem neqT {m n : Int} (h : m ≠ n) : copD (.bin .neq) [.int .i64 m, .int .i64 n] = some (.bool true) := by simp [copD, binD, shiftOp, cmpI, h]
theorem neqF {m n : Int} (h : m = n) : copD (.bin .neq) [.int .i64 m, .int .i64 n] = some (.bool false) := by simp [copD, binD, shiftOp, cmpI, h]
theorem addI {m n r : Int} (h : r = m + n) (h1 : -9223372036854775808 ≤ r) (h2 : r ≤ 9223372036854775807) : copD (.bin .add) [.int .i64 m, .int .i64 n] = some (.int .i64 r) := by
  subst h; simp [copD, binD, shiftOp, cmpI, ariI, wrap64 h1 h2]
theorem eltI {l : List D} {n : Nat} {d : D} {e : Nat} {i : Int} (hi : i = n) (h : l[n]? = some d) (hd : d.cells.length = e) : copD (.pop (.elt e)) [.lst l, .int .i64 i] = some d := by
  subst hi
  simp [copD, freeP, popD, h, hd, bnat]
theorem lenI {l : List D} {n : Int} (h : (l.length : Int) = n) : copD (.pop .len) [.lst l] = some (.int .i64 n) := by
  subst h; rfl
theorem cellI {l : List D} {i n : Nat} {d : D} (h : l[i]? = some d) (hn : l.length = n) (ho : l.all D.one = true) : copD (.pop (.cell i n)) [.agg l] = some d := by
  have e : (D.agg l).cells = l := rfl
  simp only [copD, freeP, if_true, popD, e, hn, bnat, ho, Bool.and_self, h]
end Go.Proofs.Ytjofhegodknmaaa.W
