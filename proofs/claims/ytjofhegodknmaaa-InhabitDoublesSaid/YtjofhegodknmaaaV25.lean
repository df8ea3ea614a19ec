/- V, 25: regions operation by operation, by hand: where rows have lengths that are not told. -/
import Derived.Test.YtjofhegodknmaaaV24
import Derived.Test.YtjofhegodknmaaaVE
set_option linter.unusedSimpArgs false
set_option linter.unusedVariables false
namespace Go.Proofs.Ytjofhegodknmaaa.V
open Go Go.RowKit

/-- The operations of a region from a place on, in the order of the text. -/
inductive Steps (P : Program) (an : An) (ops : Array Oper) (base : Nat) : Nat → St → St → Prop
  | done {i : Nat} {s s' : St} (hi : ops.size = i) (e : s = s') : Steps P an ops base i s s'
  | step {i : Nat} {s s' : St} {r : CallRes} (hi : Nat.ble (i + 1) ops.size = true) (hw : wantedU ops s.tm (opAt ops i) = some true) (h : ∀ k, oper P an (k + 3) (base + 8 * i) (opAt ops i) s.tm (getO s.st) s.nx = some r)
      (t : Steps P an ops base (i + 1) ⟨put s.tm (opAt ops i).dst r.res.u, setAll s.st r.res.up, r.nx⟩ s') : Steps P an ops base i s s'
  | skip {i : Nat} {s s' : St} (hi : Nat.ble (i + 1) ops.size = true) (hw : wantedU ops s.tm (opAt ops i) = some false)
      (t : Steps P an ops base (i + 1) ⟨put s.tm (opAt ops i).dst .undef, s.st, s.nx⟩ s') : Steps P an ops base i s s'

section
variable {P : Program} {an : An} {ops : Array Oper} {base : Nat}
theorem drop_at {i : Nat} (hi : Nat.ble (i + 1) ops.size = true) : ops.toList.drop i = opAt ops i :: ops.toList.drop (i + 1) := by
  have h : i < ops.size := by have := Nat.le_of_ble_eq_true hi; omega
  have h' : i < ops.toList.length := by simpa using h
  rw [List.drop_eq_getElem_cons h']
  congr 1
  simp [opAt, h]
theorem Steps.opers {i : Nat} {s s' : St} (h : Steps P an ops base i s s') : ∀ (m : Nat) (rs : List (Option CallRes)), ops.size ≤ i + m → ∃ rs', opers P an (m + 4) ops base (ops.toList.drop i) i s rs = some (s', rs') := by
  induction h with
  | done hi e =>
    intro m rs hm
    subst e
    rw [List.drop_eq_nil_of_le (by simp [hi])]
    exact ⟨rs, by simp [V.opers]⟩
  | @step i s s' r hi hw h t ih =>
    intro m rs hm
    have hlt := Nat.le_of_ble_eq_true hi
    cases m with
    | zero => omega
    | succ m =>
      obtain ⟨rs', e⟩ := ih m (rs ++ [some r]) (by omega)
      refine ⟨rs', ?_⟩
      rw [drop_at hi]
      show V.opers P an (m + 4 + 1) _ _ _ _ _ _ = _
      simp only [V.opers, hw, forceN_eq]
      have hm4 : m + 4 = (m + 1) + 3 := by omega
      rw [hm4, h (m + 1), ← hm4]
      simp only [forceCR_eq, forceT_eq, putK_eq, storeK_eq]
      exact e
  | @skip i s s' hi hw t ih =>
    intro m rs hm
    have hlt := Nat.le_of_ble_eq_true hi
    cases m with
    | zero => omega
    | succ m =>
      obtain ⟨rs', e⟩ := ih m (rs ++ [none]) (by omega)
      refine ⟨rs', ?_⟩
      rw [drop_at hi]
      show V.opers P an (m + 4 + 1) _ _ _ _ _ _ = _
      simp only [V.opers, hw, putK_eq]
      exact e
theorem Steps.op {i : Nat} {s s' : St} {r : Res} (hi : Nat.ble (i + 1) ops.size = true) (hw : wantedU ops s.tm (opAt ops i) = some true) (ho : orcU an s.tm (opAt ops i) = none)
    (h : opStep P (getO s.st) (base + 8 * i) s.tm (opAt ops i) = some r) (t : Steps P an ops base (i + 1) ⟨put s.tm (opAt ops i).dst r.u, setAll s.st r.up, s.nx⟩ s') : Steps P an ops base i s s' :=
  .step hi hw (fun k => oper_step ho h) t
theorem Steps.auto {i : Nat} {s s' : St} (hi : Nat.ble (i + 1) ops.size = true) (hw : wantedU ops s.tm (opAt ops i) = some true) (ho : orcU an s.tm (opAt ops i) = none)
    (h : (opStep P (getO s.st) (base + 8 * i) s.tm (opAt ops i)).isSome = true)
    (t : Steps P an ops base (i + 1) ⟨put s.tm (opAt ops i).dst ((opStep P (getO s.st) (base + 8 * i) s.tm (opAt ops i)).getD ⟨.undef, [], []⟩).u, setAll s.st ((opStep P (getO s.st) (base + 8 * i) s.tm (opAt ops i)).getD ⟨.undef, [], []⟩).up, s.nx⟩ s') : Steps P an ops base i s s' := by
  refine Steps.op hi hw ho ?_ t
  cases e : opStep P (getO s.st) (base + 8 * i) s.tm (opAt ops i) with
  | none => rw [e] at h; simp at h
  | some r => rfl
variable [Sig]
theorem Run.of_steps (hN : Good P an) (hR : RegsP P) (hm : P.follows .mixedOrders = true) {id : Nat} {ops : Array Oper} {s s' : St} (hg : Regs (.region id ops false)) (h : Steps P an ops s.nx 0 ⟨s.tm, s.st, s.nx + 8 * ops.size⟩ s') : Run P (.region id ops false) s .normal s' := by
  obtain ⟨rs, e⟩ := h.opers ops.size [] (by omega)
  refine Run.of_exec hN hR hm (k := ops.size + 5) hg ?_
  show exec P an ((ops.size + 4) + 1) _ _ = _
  simp only [exec, forceN_eq]
  rw [List.drop_zero] at e
  rw [e]
  rfl
end

section
variable {P : Program} {g : Nat → Option Obj} {id : Nat} {tm : List U} {o : Oper}
def convAt (o : Oper) : Option (TypeId × TypeId × Operand) :=
  match o.op with
  | .convert s t x => some (s, t, x)
  | _ => none
theorem convAt_op {s t : TypeId} {x : Operand} (h : convAt o = some (s, t, x)) : o.op = .convert s t x := by
  unfold convAt at h
  split at h
  · rename_i e
    simp only [Option.some.injEq, Prod.mk.injEq] at h
    obtain ⟨rfl, rfl, rfl⟩ := h
    exact e
  · simp at h
theorem st_conv {s t : TypeId} {x : Operand} {sd : TypeDesc} {k j : IntKind} {n : Int} (h0 : convAt o = some (s, t, x)) (hx : evalU tm x = some (.dat (.int k n))) (hs : P.underlying s = some sd) (ht : P.underlying t = some (.int j)) :
    opStep P g id tm o = some ⟨.dat (.int j (j.wrap n)), [], []⟩ := by
  letI : Sig := ⟨fun _ => .nil⟩
  have ho := convAt_op h0
  have hp : opPure P tm o = some ⟨.dat (.int j (j.wrap n)), [], []⟩ := by
    unfold opPure
    have hops : o.op.operands.toList = [x] := by rw [ho]; rfl
    rw [hops]
    have e1 : (evalU tm x).bind valU = some (.int k n) := by rw [hx]; rfl
    simp only [List.all_cons, List.all_nil, e1, Option.isSome_some, Bool.and_self, if_true, Bool.and_true]
    obtain ⟨v, hv, hr⟩ := (orc_conv (P := P) (x := x) (a := .int k n) hs ht rfl rfl : OrcHolds P (.convert s t x) [.int k n] (.int j (j.wrap n))) F0 (fun _ _ h => by simp [F0] at h) (fun x => ((evalU tm x).bind valU).getD undef) o ho (fun i z e hz he => by
      have h2 : (Op.convert s t x).operands.toList = [x] := rfl
      rw [h2] at hz
      match i with
      | 0 => simp at hz he; subst hz; subst he; rw [e1]; exact .int _ _
      | i + 1 => simp at hz)
    rw [ho]
    simp only [hv, const_int v hr, Option.map_some]
  unfold opStep
  rw [ho]
  simp only [hp]

/-! Rows of bytes. -/
theorem repeatD_one (z : D) : ∀ n : Nat, repeatD [z] n = List.replicate n (.dat z)
  | 0 => rfl
  | n + 1 => by simp [repeatD, repeatD_one z n, List.replicate_succ]
def infoB (P : Program) (e : TypeId) : Option (Nat × Nat) := (P.info? e).map fun i => (i.size, i.bytes)
/-- bytes' type -/
structure ByteT (P : Program) (t e : TypeId) : Prop where
  und : P.underlying t = some (.slice e)
  info : infoB P e = some (1, 1)
  agg : aggT P e = some false
  zero : zeroT P e = some [.int .u8 0]
theorem ByteT.size {t e : TypeId} (h : ByteT P t e) : sizeT P e = some 1 := by
  have := h.info
  unfold infoB at this
  unfold sizeT
  cases hi : P.info? e with
  | none => rw [hi] at this; simp at this
  | some i => rw [hi] at this; simp at this; simp [this.1]
theorem st_make {t e : TypeId} (hb : ByteT P t e) {n : Nat} (hn : n ≤ 140737488355328) :
    opMakeSlice P id t (.dat (.int .i64 n)) (.dat (.int .i64 n)) = some ⟨.own id 0 0 n, [], [(id, ⟨e, 1, false, 0, false, List.replicate n (.dat (.int .u8 0))⟩)]⟩ := by
  unfold opMakeSlice
  have hi := hb.info
  unfold infoB at hi
  obtain ⟨i, h1, h2⟩ := Option.map_eq_some_iff.1 hi
  simp only [Prod.mk.injEq] at h2
  have hc : (0 : Int) ≤ n ∧ (n : Int) ≤ n ∧ (n : Int) * (i.bytes : Nat) ≤ 140737488355328 ∧ 0 < i.size ∧ 0 < i.bytes ∧ ([D.int .u8 0] : List D).length = i.size := by
    rw [h2.1, h2.2]
    refine ⟨by omega, by omega, by omega, by omega, by omega, rfl⟩
  simp only [hb.und, h1, hb.agg, hb.zero]
  rw [if_pos hc, h2.1]
  simp only [Int.toNat_natCast, repeatD_one]
theorem flat_one {l : List D} (h : ∀ d ∈ l, d.one = true) : l.flatMap D.cells = l := by
  induction l with
  | nil => rfl
  | cons a r ih => rw [List.flatMap_cons, D.cells_one (h a (by simp)), ih fun d hd => h d (by simp [hd])]; rfl
theorem src_lst {l : List D} (h : ∀ d ∈ l, d.one = true) : srcCells g 1 (.dat (.lst l)) = some (l.map .dat, l.length, []) := by
  unfold srcCells
  have : (l.all fun d => d.cells.length == 1) = true := List.all_eq_true.2 fun d hd => by rw [D.cells_one (h d hd)]; rfl
  simp only [this, if_true, flat_one h]
theorem st_copy {t e tx : TypeId} (hb : ByteT P t e) (hx : isRowT P tx = true) {o' n : Nat} {ob : Obj} {l : List D} (hl : ∀ d ∈ l, d.one = true) (hg : g o' = some ob) (hgen : ob.gen = 0) (hesz : ob.esz = 1) (hsnap : ob.snap = false) (hn : l.length ≤ n) (hlen : ob.cells.length = n) (h0 : 0 < l.length) :
    opCopy P g t tx (.own o' 0 0 n) (.dat (.lst l)) = some ⟨.dat (.int .i64 l.length), [o'], [(o', { ob with cells := l.map .dat ++ ob.cells.drop l.length })]⟩ := by
  unfold opCopy
  have hmin : min l.length n = l.length := Nat.min_eq_left hn
  simp only [hx, isTextU, Bool.not_false, Bool.and_self, if_true, hb.und, lenU, hb.size, hmin, takeU, List.take_length]
  rw [if_neg (by omega)]
  simp only [hg, src_lst hl, splice, Nat.zero_mul, Nat.zero_add, List.take_zero, List.nil_append, List.length_map]
  rw [if_pos ⟨hgen, hesz, by omega, hsnap, trivial, by omega⟩]
  have e : (min (l.length : Int) (n : Int)) = (l.length : Int) := by omega
  simp [hmin]
  try omega
theorem st_addr {t e : TypeId} (hb : ByteT P t e) {o' gn off n i : Nat} {ob : Obj} (hg : g o' = some ob) (hgen : ob.gen = gn) (hesz : ob.esz = 1) (hi : i < n) {k : IntKind} :
    opIndexAddr P g t (.own o' gn off n) (.dat (.int k i)) = some ⟨.ptr o' gn (off + i), [o'], []⟩ := by
  unfold opIndexAddr
  simp only [hb.und, hg, hb.size]
  rw [if_pos ⟨hgen, hesz.symm, by omega, by omega, by omega⟩]
  simp
theorem st_store {t : TypeId} {o' gn p : Nat} {ob : Obj} {d : D} (ht : sizeT P t = some 1) (hd : d.one = true) (hg : g o' = some ob) (hgen : ob.gen = gn) (hesz : 0 < ob.esz) (hsnap : ob.snap = false) (hp : p < ob.cells.length) :
    opStore P g t (.ptr o' gn p) (.dat d) = some ⟨.undef, [o'], [(o', { ob with cells := ob.cells.set p (.dat d) })]⟩ := by
  unfold opStore
  have hu : (U.dat d).one = true := hd
  have hc : (U.dat d).cells = [.dat d] := U.cells_one hu
  simp only [hg, ht, hc]
  rw [if_pos ⟨hgen, hesz, hsnap, rfl, (by show p + 1 ≤ _; omega), by simp [hu]⟩]
  congr 5
  unfold splice
  simp only [List.length_cons, List.length_nil, Nat.zero_add]
  rw [List.set_eq_take_append_cons_drop, if_pos hp]
  simp
theorem st_append {t e tx : TypeId} (hb : ByteT P t e) (hx : isRowT P tx = true) {o' gn n m : Nat} {ob : Obj} {x : U} {xs : List U} {rd : List Nat} (hs : srcCells g 1 x = some (xs, m, rd)) (hm : 0 < m) (hg : g o' = some ob) (hgen : ob.gen = gn) (hesz : ob.esz = 1) (hty : ob.ty = e)
    (hlen : ob.cells.length = n) (hn : n + m ≤ 140737488355328) :
    opAppend P g id t tx (.own o' gn 0 n) x = some ⟨.own o' (gn + 1) 0 (n + m), o' :: rd, [(o', { ob with gen := gn + 1, cells := ob.cells ++ xs })]⟩ := by
  unfold opAppend
  have hi := hb.info
  unfold infoB at hi
  obtain ⟨i, h1, h2⟩ := Option.map_eq_some_iff.1 hi
  simp only [Prod.mk.injEq] at h2
  simp only [hx, if_true, hb.und, h1, hb.agg, hb.zero]
  rw [if_pos ⟨by omega, by omega, by rw [h2.1]; rfl⟩, h2.1]
  simp only [hs, hg]
  rw [if_pos ⟨hgen, trivial, by omega, hesz, hty⟩, if_neg (by omega), h2.2, if_pos (by omega)]
theorem st_append_nil {t e tx : TypeId} (hb : ByteT P t e) (hx : isRowT P tx = true) {m : Nat} {x : U} {xs : List U} {rd : List Nat} (hs : srcCells g 1 x = some (xs, m, rd)) (hm : 0 < m) (hn : m ≤ 140737488355328) :
    opAppend P g id t tx (.dat .nil) x = some ⟨.own id 0 0 m, rd, [(id, ⟨e, 1, false, 0, false, xs⟩)]⟩ := by
  unfold opAppend
  have hi := hb.info
  unfold infoB at hi
  obtain ⟨i, h1, h2⟩ := Option.map_eq_some_iff.1 hi
  simp only [Prod.mk.injEq] at h2
  simp only [hx, if_true, hb.und, h1, hb.agg, hb.zero]
  rw [if_pos ⟨by omega, by omega, by rw [h2.1]; rfl⟩, h2.1]
  simp only [hs]
  rw [if_neg (by omega), h2.2, if_pos (by omega)]
end

/-! What objects lead to. -/
theorem refsL_dats : ∀ l : List D, refsL (l.map .dat) = []
  | [] => rfl
  | d :: r => by simp only [List.map_cons, refsL, refs, refsL_dats r, List.append_nil]
theorem refsL_app : ∀ a b : List U, refsL (a ++ b) = refsL a ++ refsL b
  | [], b => rfl
  | u :: r, b => by simp only [List.cons_append, refsL, refsL_app r b, List.append_assoc]
theorem chunk_one {l : List D} : chunk false 1 l.length l = l := by
  induction l with
  | nil => rfl
  | cons a r ih => simp [chunk, ih]
/-- a row of one's own, as data -/
theorem toD_row {g : Nat → Option Obj} {k o gn : Nat} {ob : Obj} {l : List D} (hg : g o = some ob) (hgen : ob.gen = gn) (hc : ob.cells = l.map .dat) (he : ob.esz = 1) (ha : ob.ag = false) :
    toD g (k + 2) (.own o gn 0 l.length) = some (.lst l, [o]) := by
  have h1 : (List.drop (0 * ob.esz) ob.cells).take (l.length * ob.esz) = l.map .dat := by
    rw [hc, he, Nat.zero_mul, List.drop_zero, Nat.mul_one, List.take_of_length_le (by simp)]
  simp only [toD, hg]
  rw [if_pos ⟨hgen, by rw [he, hc]; simp, by omega, .inr he⟩, h1, toD_dats]
  simp only [ha, he, List.map_map, Function.comp_def, List.map_id', chunk_one]
  congr 2
  have : (List.map (fun d => (d, ([] : List Nat))) l).flatMap (·.2) = [] := by
    simp
  rw [this]

/-- some slots alone, as they stand -/
def maskU : List Bool → List U → List U
  | [], l => l.map fun _ => .junk
  | _, [] => []
  | true :: k, u :: l => u :: maskU k l
  | false :: k, _ :: l => .junk :: maskU k l
theorem mask_eq : ∀ (k : List Bool) (l : List U), mask k l = maskU k l
  | [], l => by simp [mask, maskU]
  | _ :: _, [] => by simp [mask, maskU]
  | true :: k, u :: l => by simp only [mask, maskU, forceU_eq, mask_eq k l]
  | false :: k, u :: l => by simp only [mask, maskU, mask_eq k l]
section
variable [Sig] {P : Program} {an : An}
/-- A run's end, one object and some slots kept. -/
theorem Run.weak1 {c : Code} {s s1 s' : St} {x : X} (h : Run P c s x s1) {o : Nat} {ob : Obj} {keep : List Bool} {nx : Nat} (hg : getO s1.st o = some ob) (hr : refsL ob.cells = [])
    (hm : (refsL (maskU keep s1.tm)).all (fun x => [o].contains x) = true) (hs : s.st.all (fun p => [o].contains p.1) = true) (hn : decide (o < nx) = true) (he : (⟨maskU keep s1.tm, [(o, ob)], nx⟩ : St) = s') : Run P c s x s' := by
  have hw : weakB s s1 [o] keep nx = true := by
    unfold weakB closed
    rw [mask_eq]
    simp only [List.all_cons, List.all_nil, hg, hr, hn, Bool.and_true, Bool.and_eq_true, true_and]
    exact ⟨hm, hs⟩
  have := h.weak hw
  have e : weakS s1 [o] keep nx = s' := by
    rw [← he]
    simp [weakS, subStore, hg, mask_eq]
  rw [e] at this
  exact this
/-- The same of no object. -/
theorem Run.weak0 {c : Code} {s s1 s' : St} {x : X} (h : Run P c s x s1) {keep : List Bool} {nx : Nat}
    (hm : (refsL (maskU keep s1.tm)).all (fun x => ([] : List Nat).contains x) = true) (hs : s.st.all (fun p => ([] : List Nat).contains p.1) = true) (he : (⟨maskU keep s1.tm, [], nx⟩ : St) = s') : Run P c s x s' := by
  have hw : weakB s s1 [] keep nx = true := by
    unfold weakB closed
    rw [mask_eq]
    simp only [List.all_nil, Bool.and_true, Bool.and_eq_true, true_and]
    exact ⟨hm, hs⟩
  have := h.weak hw
  have e : weakS s1 [] keep nx = s' := by
    rw [← he]
    simp [weakS, subStore, mask_eq]
  rw [e] at this
  exact this
/-- A region, operation by operation; what is kept of its end. -/
theorem Run.steps0 (hN : Good P an) (hR : RegsP P) (hm : P.follows .mixedOrders = true) {id : Nat} {ops : Array Oper} {s s1 s' : St} {keep : List Bool} {nx : Nat} (hg : Regs (.region id ops false)) (h : Steps P an ops s.nx 0 ⟨s.tm, s.st, s.nx + 8 * ops.size⟩ s1)
    (hk : (refsL (maskU keep s1.tm)).all (fun x => ([] : List Nat).contains x) = true) (hs : s.st.all (fun p => ([] : List Nat).contains p.1) = true) (he : (⟨maskU keep s1.tm, [], nx⟩ : St) = s') : Run P (.region id ops false) s .normal s' :=
  (Run.of_steps hN hR hm hg h).weak0 hk hs he
theorem Run.steps1 (hN : Good P an) (hR : RegsP P) (hm : P.follows .mixedOrders = true) {id : Nat} {ops : Array Oper} {s s1 s' : St} {o : Nat} {ob : Obj} {keep : List Bool} {nx : Nat} (hg : Regs (.region id ops false)) (h : Steps P an ops s.nx 0 ⟨s.tm, s.st, s.nx + 8 * ops.size⟩ s1)
    (ho : getO s1.st o = some ob) (hr : refsL ob.cells = []) (hk : (refsL (maskU keep s1.tm)).all (fun x => [o].contains x) = true) (hs : s.st.all (fun p => [o].contains p.1) = true) (hn : decide (o < nx) = true) (he : (⟨maskU keep s1.tm, [(o, ob)], nx⟩ : St) = s') : Run P (.region id ops false) s .normal s' :=
  (Run.of_steps hN hR hm hg h).weak1 ho hr hk hs hn he
end

end Go.Proofs.Ytjofhegodknmaaa.V
