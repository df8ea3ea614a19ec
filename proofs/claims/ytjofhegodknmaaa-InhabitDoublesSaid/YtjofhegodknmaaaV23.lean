/- V, 23: more of what is known of operations: lengths, elements, texts. -/
import Derived.Test.YtjofhegodknmaaaV22
import Derived.Lib.Bytealg
set_option linter.unusedSimpArgs false
set_option linter.unusedVariables false
namespace Go.Proofs.Ytjofhegodknmaaa.V
open Go Go.RowKit

inductive Gact where
  | len (t : TypeId) (a d : D)
  | ix (t : TypeId) (a i : D) (cs : List D)
  | cs (op : BinOp) (a b : D) (r : Bool)
  | ext (g : Nat) (a b d : D)
  | neg (a d : D)
def gLen (t : TypeId) (a : D) : List Gact → Option D
  | [] => none
  | .len t' a' d :: l => if Nat.beq t' t && beqD a' a then some d else gLen t a l
  | _ :: l => gLen t a l
def gIx (t : TypeId) (a i : D) : List Gact → Option D
  | [] => none
  | .ix t' a' i' es :: l => if Nat.beq t' t && beqD a' a && beqD i' i then some (.fp es) else gIx t a i l
  | _ :: l => gIx t a i l
def gCs (op : BinOp) (a b : D) : List Gact → Option D
  | [] => none
  | .cs q a' b' r :: l => if beqBin q op && beqD a' a && beqD b' b then some (.bool r) else gCs op a b l
  | _ :: l => gCs op a b l
def gExt (g : Nat) (a b : D) : List Gact → Option D
  | [] => none
  | .ext g' a' b' d :: l => if Nat.beq g' g && beqD a' a && beqD b' b then some d else gExt g a b l
  | _ :: l => gExt g a b l
def gNeg (a : D) : List Gact → Option D
  | [] => none
  | .neg a' d :: l => if beqD a' a then some d else gNeg a l
  | _ :: l => gNeg a l
def isExt (g : Nat) : List Gact → Bool
  | [] => false
  | .ext g' _ _ _ :: l => Nat.beq g' g || isExt g l
  | _ :: l => isExt g l
def orcG (l : List Gact) : Op → Option (List D → Option D)
  | .call c =>
    match c.callee with
    | .builtin .len => some fun ds =>
      match c.args.toList, c.argTypes.toList, ds with
      | [_], [t], [a] => gLen t a l
      | _, _, _ => none
    | .value (.func g) =>
      if isExt g l then some fun ds =>
        match c.args.toList, ds with
        | [_, _], [.fn g' [], a, b] => if Nat.beq g' g then gExt g a b l else none
        | _, _ => none
      else none
    | _ => none
  | .indexAddr t _ _ => some fun ds =>
    match ds with
    | [a, i] => gIx t a i l
    | _ => none
  | .binOp op _ _ _ _ => some fun ds =>
    match ds with
    | [a, b] => if isSym a || isSym b then gCs op a b l else none
    | _ => none
  | .unOp .neg _ _ => some fun ds =>
    match ds with
    | [a] => gNeg a l
    | _ => none
  | _ => none
/-- both -/
def orcOr (f g : Op → Option (List D → Option D)) : Op → Option (List D → Option D) := fun op =>
  match f op, g op with
  | none, y => y
  | x, none => x
  | some x, some y => some fun ds =>
    match x ds with
    | some d => some d
    | none => y ds
def strI (op : BinOp) (s t : ByteArray) : Option Bool :=
  match op with
  | .lss => some (Op.bytesLess s.toList t.toList)
  | .gtr => some (!(Op.bytesLess s.toList t.toList || s.toList == t.toList))
  | _ => none

theorem pureSem_typeInfo (P : Program) (t : TypeId) {i : TypeInfo} (h : P.info? t = some i) : pureSem P (typeInfo t) = some i := by
  unfold typeInfo
  simp only [pureSem_bind, program, pureSem, Option.bind_some]
  rw [h]
  rfl
theorem pureSem_sizeOf (P : Program) (t : TypeId) {n : Nat} (h : sizeT P t = some n) : pureSem P (sizeOf t) = some n := by
  unfold sizeT at h
  obtain ⟨i, hi, rfl⟩ := Option.map_eq_some_iff.1 h
  unfold sizeOf
  simp only [pureSem_bind, pureSem_typeInfo P t hi, Option.bind_some]
  rfl

section
variable [Sig] {P : Program}
def OrcS (P : Program) (f : Op → Option (List D → Option D)) : Prop := ∀ op t ds d, f op = some t → t ds = some d → OrcHolds P op ds d
theorem orc_or {f g : Op → Option (List D → Option D)} (hf : OrcS P f) (hg : OrcS P g) : OrcS P (orcOr f g) := by
  intro op t ds d ht hd
  unfold orcOr at ht
  split at ht
  · exact hg op t ds d ht hd
  · exact hf op t ds d ht hd
  · rename_i x y hx hy
    obtain rfl := Option.some.inj ht
    simp only at hd
    split at hd
    · rename_i d' hd'
      obtain rfl := Option.some.inj hd
      exact hf op x ds _ hx hd'
    · exact hg op y ds d hy hd
/-- Is it so? -/
def Gact.ok (P : Program) : Gact → Prop
  | .len t a d => ∃ n : Nat, plain d = .int .i64 n ∧ (((∃ e, P.underlying t = some (.slice e)) ∧ ((plain a = .nil ∧ n = 0) ∨ ∃ l, plain a = .lst l ∧ n = l.length)) ∨ (P.underlying t = some .string ∧ ∃ s, plain a = .str s ∧ n = s.size))
  | .ix t a i es => ∃ k n l x e, plain a = .lst l ∧ plain i = .int k n ∧ 0 ≤ n ∧ l[n.toNat]? = some x ∧ P.underlying t = some (.slice e) ∧ sizeT P e = some x.cells.length ∧ 0 < x.cells.length ∧ es.length = x.cells.length ∧
      ∀ (j : Nat) c y, es[j]? = some c → x.cells[j]? = some y → c = y ∨ ∃ m, c = .sym m ∧ Sig.σ m = y
  | .cs op a b r => ∃ s t, plain a = .str s ∧ plain b = .str t ∧ strI op s t = some r
  | .ext g a b d => ∃ fn s t, P.funcs[g]? = some fn ∧ fn.body = none ∧ (fn.name == "runtime.NumGoroutine") = false ∧ Extern.findNext fn = none ∧ Extern.find fn = some Extern.BytealgCompare.compare ∧
      plain a = .str s ∧ plain b = .str t ∧ plain d = .int .i64 (Lib.compareBytes s.data.toList t.data.toList)
  | .neg a d => ∃ k n, plain a = .int k n ∧ plain d = .int k (k.wrap (-n))
theorem plain_str {F : Mem} {d : D} {v : Value} {s : ByteArray} (h : Rep F d v) (hd : plain d = .str s) : v = .string s := by
  have := plain_rep h
  rw [hd] at this
  cases this
  rfl
theorem orc_len {c : Call} {t : TypeId} {x : Operand} {a d : D} (hcal : c.callee = .builtin .len) (hargs : c.args.toList = [x]) (htys : c.argTypes.toList = [t]) (hf : (Gact.len t a d).ok P) : OrcHolds P (.call c) [a] d := by
  intro F _ ρ o ho hR
  obtain ⟨n, hd, h⟩ := hf
  have hops : (Op.call c).operands.toList = [x] := by simp [Op.operands, Call.operands, hcal, hargs]
  have h1 := plain_rep (hR 0 x a (by rw [hops]; rfl) rfl)
  have hca : c.args = #[x] := by apply Array.ext'; simpa using hargs
  have hct : c.argTypes = #[t] := by apply Array.ext'; simpa using htys
  refine ⟨.int .i64 n, ?_, rep_plain_int hd⟩
  simp only [execOp, ho, resolve, hcal, hca, hct]
  rcases h with ⟨⟨e, he⟩, h⟩ | ⟨hs, s, ha, rfl⟩
  · rcases h with ⟨ha, rfl⟩ | ⟨l, ha, rfl⟩
    · rw [ha] at h1
      generalize hv : ρ x = v at h1
      cases h1
      simp [hv, pureSem_bind, invoke, builtin, Builtin.len_, pureSem_underlying P t he, goInt]
    · rw [ha] at h1
      generalize hv : ρ x = v at h1
      cases h1
      simp [hv, pureSem_bind, invoke, builtin, Builtin.len_, pureSem_underlying P t he, goInt]
  · rw [ha] at h1
    generalize hv : ρ x = v at h1
    cases h1
    simp [hv, pureSem_bind, invoke, builtin, Builtin.len_, pureSem_underlying P t hs, goInt]
theorem orc_ix {t : TypeId} {x y : Operand} {a i : D} {cs : List D} (hf : (Gact.ix t a i cs).ok P) : OrcHolds P (.indexAddr t x y) [a, i] (.fp cs) := by
  intro F hsp ρ o ho hR
  obtain ⟨k, n, l, z, e, ha, hi, h0, hz, hu, hs, hpos, hcl, hcs⟩ := hf
  have h1 := plain_rep (hR 0 x a rfl rfl)
  have h2 := plain_int (hR 1 y i rfl rfl) hi
  rw [ha] at h1
  generalize hv : ρ x = v at h1
  cases h1 with
  | lst _ ad c sz val hc hsz hone hF hRR =>
    have hsz2 : sz = z.cells.length := (hsz z (List.mem_of_getElem? hz)).symm
    subst hsz2
    have hlt : n.toNat < l.length := (List.getElem?_eq_some_iff.1 hz).1
    have hb : 0 ≤ n ∧ n < (l.length : Int) := ⟨h0, by omega⟩
    refine ⟨.pointer (some (ad.add (n.toNat * z.cells.length))), ?_, .fp cs _ (val n.toNat) ?_ (fun j c hj => ?_) (fun j c hj => ?_) (fun j c hj => ?_)⟩
    · simp only [execOp, ho, hv, h2]
      simp [pureSem_bind, Instr.indexAt, asIntOf, pureSem_underlying P t hu, hb.1, hb.2, pureSem_map, pureSem_sizeOf P e hs]
    · obtain ⟨w, hw⟩ : ∃ w, z.cells[0]? = some w := ⟨z.cells[0], List.getElem?_eq_getElem hpos⟩
      have := hsp _ _ (hF n.toNat z 0 w hz hw)
      simpa using this
    · obtain ⟨w, hw⟩ : ∃ w, z.cells[j]? = some w := ⟨z.cells[j]'(by rw [← hcl]; exact (List.getElem?_eq_some_iff.1 hj).1), List.getElem?_eq_getElem _⟩
      have h3 := hone n.toNat z j w hz hw
      rcases hcs j c w hj hw with rfl | ⟨m, rfl, _⟩
      · exact h3
      · rfl
    · obtain ⟨w, hw⟩ : ∃ w, z.cells[j]? = some w := ⟨z.cells[j]'(by rw [← hcl]; exact (List.getElem?_eq_some_iff.1 hj).1), List.getElem?_eq_getElem _⟩
      rw [add_add']
      exact hF n.toNat z j w hz hw
    · obtain ⟨w, hw⟩ : ∃ w, z.cells[j]? = some w := ⟨z.cells[j]'(by rw [← hcl]; exact (List.getElem?_eq_some_iff.1 hj).1), List.getElem?_eq_getElem _⟩
      have h3 := hone n.toNat z j w hz hw
      have h4 := hRR n.toNat z j w hz hw
      rcases hcs j c w hj hw with rfl | ⟨m, rfl, hm⟩
      · exact h4
      · exact .sym m _ (by rw [hm]; exact h3) (by rw [hm]; exact h4)
theorem orc_cs {op : BinOp} {t w : TypeId} {x y : Operand} {a b : D} {r : Bool} (hf : (Gact.cs op a b r).ok P) : OrcHolds P (.binOp op t x y w) [a, b] (.bool r) := by
  intro F _ ρ o ho hR
  obtain ⟨s, u, ha, hb, hr⟩ := hf
  have h1 := plain_str (hR 0 x a rfl rfl) ha
  have h2 := plain_str (hR 1 y b rfl rfl) hb
  refine ⟨.bool r, ?_, .bool r⟩
  simp only [execOp, ho, h1, h2]
  cases op <;> simp only [strI, Option.some.injEq, reduceCtorEq] at hr
  all_goals
    subst hr
    simp [pureSem_bind, eqGuard, binOp, Op.stringOp]
theorem orc_neg {t : TypeId} {x : Operand} {a d : D} (hf : (Gact.neg a d).ok P) : OrcHolds P (.unOp .neg t x) [a] d := by
  intro F _ ρ o ho hR
  obtain ⟨k, n, ha, hd⟩ := hf
  have h1 := plain_int (hR 0 x a rfl rfl) ha
  refine ⟨.int k (k.wrap (-n)), ?_, rep_plain_int hd⟩
  simp only [execOp, ho, h1]
  simp [pureSem_bind, Op.unary, Op.intArith]
theorem orc_ext {c : Call} {g : Nat} {x y : Operand} {a b d : D} (hcal : c.callee = .value (.func g)) (hargs : c.args.toList = [x, y]) (hf : (Gact.ext g a b d).ok P) : OrcHolds P (.call c) [.fn g [], a, b] d := by
  intro F _ ρ o ho hR
  obtain ⟨fn, s, u, hfn, hbd, hnm, hfx, hfi, ha, hb, hd⟩ := hf
  have hops : (Op.call c).operands.toList = [.func g, x, y] := by simp [Op.operands, Call.operands, hcal, hargs]
  have h0 : ρ (.func g) = .func (.func g) #[] #[] := by
    have := hR 0 (.func g) (.fn g []) (by rw [hops]; rfl) rfl
    generalize ρ (.func g) = v at this
    cases this with
    | fn _ _ vs hl _ =>
      have : vs = [] := List.eq_nil_of_length_eq_zero hl
      subst this
      rfl
  have h1 := plain_str (hR 1 x a (by rw [hops]; rfl) rfl) ha
  have h2 := plain_str (hR 2 y b (by rw [hops]; rfl) rfl) hb
  have hca : c.args = #[x, y] := by apply Array.ext'; simpa using hargs
  have hn' : fn.name ≠ "runtime.NumGoroutine" := by simpa using hnm
  refine ⟨.int .i64 (Lib.compareBytes s.data.toList u.data.toList), ?_, rep_plain_int hd⟩
  have hcmp : pureSem P (Extern.BytealgCompare.compare #[.string s, .string u]) = some (.int .i64 (Lib.compareBytes s.data.toList u.data.toList)) := by
    rw [← Lib.cmp_eq]
    rfl
  simp only [execOp, ho, resolve, hcal, hca, h0]
  simp [pureSem_bind, pureSem_map, Deferred.ofValue, invoke, callFunc, program, pureSem, hfn, hbd, hn', hfx, hfi, mark, h1, h2, hcmp]
theorem gLen_ok {l : List Gact} (h : ∀ f ∈ l, f.ok P) {t : TypeId} {a d : D} (hl : gLen t a l = some d) : (Gact.len t a d).ok P := by
  induction l with
  | nil => simp [gLen] at hl
  | cons f l ih =>
    have ih' := ih fun g hg => h g (List.mem_cons_of_mem _ hg)
    have hf := h f (List.mem_cons_self ..)
    cases f with
    | len t' a' d' =>
      simp only [gLen] at hl
      split at hl
      · rename_i hc
        simp only [Bool.and_eq_true] at hc
        obtain rfl := Nat.eq_of_beq_eq_true hc.1
        obtain rfl := beqD_eq _ _ hc.2
        obtain rfl := Option.some.inj hl
        exact hf
      · exact ih' hl
    | _ => simp only [gLen] at hl; exact ih' hl
theorem gIx_ok {l : List Gact} (h : ∀ f ∈ l, f.ok P) {t : TypeId} {a i d : D} (hl : gIx t a i l = some d) : ∃ cs, d = .fp cs ∧ (Gact.ix t a i cs).ok P := by
  induction l with
  | nil => simp [gIx] at hl
  | cons f l ih =>
    have ih' := ih fun g hg => h g (List.mem_cons_of_mem _ hg)
    have hf := h f (List.mem_cons_self ..)
    cases f with
    | ix t' a' i' cs =>
      simp only [gIx] at hl
      split at hl
      · rename_i hc
        simp only [Bool.and_eq_true] at hc
        obtain rfl := Nat.eq_of_beq_eq_true hc.1.1
        obtain rfl := beqD_eq _ _ hc.1.2
        obtain rfl := beqD_eq _ _ hc.2
        obtain rfl := Option.some.inj hl
        exact ⟨cs, rfl, hf⟩
      · exact ih' hl
    | _ => simp only [gIx] at hl; exact ih' hl
theorem gCs_ok {l : List Gact} (h : ∀ f ∈ l, f.ok P) {op : BinOp} {a b d : D} (hl : gCs op a b l = some d) : ∃ r, d = .bool r ∧ (Gact.cs op a b r).ok P := by
  induction l with
  | nil => simp [gCs] at hl
  | cons f l ih =>
    have ih' := ih fun g hg => h g (List.mem_cons_of_mem _ hg)
    have hf := h f (List.mem_cons_self ..)
    cases f with
    | cs q a' b' r =>
      simp only [gCs] at hl
      split at hl
      · rename_i hc
        simp only [Bool.and_eq_true] at hc
        obtain rfl := beqBin_eq hc.1.1
        obtain rfl := beqD_eq _ _ hc.1.2
        obtain rfl := beqD_eq _ _ hc.2
        obtain rfl := Option.some.inj hl
        exact ⟨r, rfl, hf⟩
      · exact ih' hl
    | _ => simp only [gCs] at hl; exact ih' hl
theorem gExt_ok {l : List Gact} (h : ∀ f ∈ l, f.ok P) {g : Nat} {a b d : D} (hl : gExt g a b l = some d) : (Gact.ext g a b d).ok P := by
  induction l with
  | nil => simp [gExt] at hl
  | cons f l ih =>
    have ih' := ih fun g hg => h g (List.mem_cons_of_mem _ hg)
    have hf := h f (List.mem_cons_self ..)
    cases f with
    | ext g' a' b' d' =>
      simp only [gExt] at hl
      split at hl
      · rename_i hc
        simp only [Bool.and_eq_true] at hc
        obtain rfl := Nat.eq_of_beq_eq_true hc.1.1
        obtain rfl := beqD_eq _ _ hc.1.2
        obtain rfl := beqD_eq _ _ hc.2
        obtain rfl := Option.some.inj hl
        exact hf
      · exact ih' hl
    | _ => simp only [gExt] at hl; exact ih' hl
theorem gNeg_ok {l : List Gact} (h : ∀ f ∈ l, f.ok P) {a d : D} (hl : gNeg a l = some d) : (Gact.neg a d).ok P := by
  induction l with
  | nil => simp [gNeg] at hl
  | cons f l ih =>
    have ih' := ih fun g hg => h g (List.mem_cons_of_mem _ hg)
    have hf := h f (List.mem_cons_self ..)
    cases f with
    | neg a' d' =>
      simp only [gNeg] at hl
      split at hl
      · rename_i hc
        obtain rfl := beqD_eq _ _ hc
        obtain rfl := Option.some.inj hl
        exact hf
      · exact ih' hl
    | _ => simp only [gNeg] at hl; exact ih' hl
theorem orcG_ok {l : List Gact} (h : ∀ f ∈ l, f.ok P) : OrcS P (orcG l) := by
  intro op t ds d ht hd
  unfold orcG at ht
  split at ht
  · split at ht
    · rename_i c hcal
      obtain rfl := Option.some.inj ht
      simp only at hd
      split at hd
      · rename_i h1 h2; exact orc_len hcal h1 h2 (gLen_ok h hd)
      · simp at hd
    · rename_i c g hcal
      split at ht
      · obtain rfl := Option.some.inj ht
        simp only at hd
        split at hd
        · rename_i h1
          split at hd
          · rename_i hb
            obtain rfl := Nat.eq_of_beq_eq_true hb
            exact orc_ext hcal h1 (gExt_ok h hd)
          · simp at hd
        · simp at hd
      · simp at ht
    · simp at ht
  · obtain rfl := Option.some.inj ht
    simp only at hd
    split at hd
    · obtain ⟨cs, rfl, hok⟩ := gIx_ok h hd; exact orc_ix hok
    · simp at hd
  · obtain rfl := Option.some.inj ht
    simp only at hd
    split at hd
    · split at hd
      · obtain ⟨r, rfl, hok⟩ := gCs_ok h hd; exact orc_cs hok
      · simp at hd
    · simp at hd
  · obtain rfl := Option.some.inj ht
    simp only at hd
    split at hd
    · exact orc_neg (gNeg_ok h hd)
    · simp at hd
  · simp at ht
theorem orc_both {l : List Fact} {m : List Gact} (h : ∀ f ∈ l, f.ok P) (h' : ∀ f ∈ m, f.ok P) {an : An} (he : an.orc = orcOr (orcOf l) (orcG m)) : OrcOk P an := by
  have h1 : OrcS P (orcOf l) := orc_of (an := { io := fun _ => false, ownRes := fun _ => false, spec := fun _ _ => none, orc := orcOf l }) h rfl
  have := orc_or h1 (orcG_ok h')
  intro op t ds d ht hd
  rw [he] at ht
  exact this op t ds d ht hd
end

end Go.Proofs.Ytjofhegodknmaaa.V
