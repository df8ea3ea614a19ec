/- V, 26: rows of elements of several cells, by hand: where rows have lengths that are not told; what is kept of a run's end, told as a list. -/
import Derived.Test.YtjofhegodknmaaaV25
set_option linter.unusedSimpArgs false
set_option linter.unusedVariables false
namespace Go.Proofs.Ytjofhegodknmaaa.V
open Go Go.RowKit

/-- a row's type: its element's type, cells, bytes; whether elements have parts -/
structure RowT (P : Program) (t e : TypeId) (s b : Nat) (a : Bool) : Prop where
  und : P.underlying t = some (.slice e)
  info : infoB P e = some (s, b)
  agg : aggT P e = some a
  zero : (zeroT P e).map List.length = some s
  pos : 0 < s
  bpos : 0 < b
section
variable {P : Program} {g : Nat → Option Obj} {id : Nat}
theorem RowT.inf {t e : TypeId} {s b : Nat} {a : Bool} (h : RowT P t e s b a) : ∃ i, P.info? e = some i ∧ i.size = s ∧ i.bytes = b := by
  have := h.info
  unfold infoB at this
  obtain ⟨i, h1, h2⟩ := Option.map_eq_some_iff.1 this
  simp only [Prod.mk.injEq] at h2
  exact ⟨i, h1, h2.1, h2.2⟩
theorem RowT.size {t e : TypeId} {s b : Nat} {a : Bool} (h : RowT P t e s b a) : sizeT P e = some s := by
  obtain ⟨i, h1, h2, _⟩ := h.inf
  simp [sizeT, h1, h2]
theorem RowT.zer {t e : TypeId} {s b : Nat} {a : Bool} (h : RowT P t e s b a) : ∃ z, zeroT P e = some z ∧ z.length = s := by
  obtain ⟨z, h1, h2⟩ := Option.map_eq_some_iff.1 h.zero
  exact ⟨z, h1, h2⟩
theorem st_appendR {t e tx : TypeId} {s b : Nat} {a : Bool} (hb : RowT P t e s b a) (hx : isRowT P tx = true) {o' gn n m : Nat} {ob : Obj} {x : U} {xs : List U} {rd : List Nat} (hs : srcCells g s x = some (xs, m, rd)) (hm : 0 < m) (hg : g o' = some ob)
    (hgen : ob.gen = gn) (hesz : ob.esz = s) (hty : ob.ty = e) (hlen : n * s = ob.cells.length) (hn : (n + m) * b ≤ 140737488355328) :
    opAppend P g id t tx (.own o' gn 0 n) x = some ⟨.own o' (gn + 1) 0 (n + m), o' :: rd, [(o', { ob with gen := gn + 1, cells := ob.cells ++ xs })]⟩ := by
  unfold opAppend
  obtain ⟨i, h1, h2, h3⟩ := hb.inf
  obtain ⟨z, hz, hzl⟩ := hb.zer
  simp only [hx, if_true, hb.und, h1, hb.agg, hz]
  rw [if_pos ⟨by rw [h2]; exact hb.pos, by rw [h3]; exact hb.bpos, by rw [h2]; exact hzl⟩, h2]
  simp only [hs, hg]
  rw [if_pos ⟨hgen, trivial, hlen, hesz, hty⟩, if_neg (by omega), h3, if_pos hn]
theorem st_appendR_nil {t e tx : TypeId} {s b : Nat} {a : Bool} (hb : RowT P t e s b a) (hx : isRowT P tx = true) {m : Nat} {x : U} {xs : List U} {rd : List Nat} (hs : srcCells g s x = some (xs, m, rd)) (hm : 0 < m) (hn : m * b ≤ 140737488355328) :
    opAppend P g id t tx (.dat .nil) x = some ⟨.own id 0 0 m, rd, [(id, ⟨e, s, a, 0, false, xs⟩)]⟩ := by
  unfold opAppend
  obtain ⟨i, h1, h2, h3⟩ := hb.inf
  obtain ⟨z, hz, hzl⟩ := hb.zer
  simp only [hx, if_true, hb.und, h1, hb.agg, hz]
  rw [if_pos ⟨by rw [h2]; exact hb.pos, by rw [h3]; exact hb.bpos, by rw [h2]; exact hzl⟩, h2]
  simp only [hs]
  rw [if_neg (by omega), h3, if_pos hn]
end

/-! Elements with parts. -/
theorem chunk_agg {s : Nat} : ∀ {css : List (List D)}, (∀ c ∈ css, c.length = s) → chunk true s css.length css.flatten = css.map .agg
  | [], _ => rfl
  | c :: r, h => by
    have hc : c.length = s := h c (by simp)
    have ht : (c ++ r.flatten).take s = c := by rw [← hc]; exact List.take_left
    have hd : (c ++ r.flatten).drop s = r.flatten := by rw [← hc]; exact List.drop_left
    simp only [List.length_cons, List.flatten_cons, chunk, if_true, List.map_cons, ht, hd]
    rw [chunk_agg fun x hx => h x (by simp [hx])]
theorem flatten_length {s : Nat} : ∀ {css : List (List D)}, (∀ c ∈ css, c.length = s) → css.flatten.length = css.length * s
  | [], _ => by simp
  | c :: r, h => by
    rw [List.flatten_cons, List.length_append, h c (by simp), flatten_length fun x hx => h x (by simp [hx]), List.length_cons, Nat.succ_mul]
    omega
theorem no_reads (l : List D) : (l.map fun d => (d, ([] : List Nat))).flatMap (·.2) = [] := by simp
theorem toD_rowR {g : Nat → Option Obj} {k o gn s : Nat} {ob : Obj} {css : List (List D)} (hg : g o = some ob) (hgen : ob.gen = gn) (hc : ob.cells = css.flatten.map .dat) (he : ob.esz = s) (hs : 0 < s) (ha : ob.ag = true) (hl : ∀ c ∈ css, c.length = s) :
    toD g (k + 2) (.own o gn 0 css.length) = some (.lst (css.map .agg), [o]) := by
  have hfl := flatten_length hl
  have h1 : (List.drop (0 * ob.esz) ob.cells).take (css.length * ob.esz) = css.flatten.map .dat := by
    rw [hc, he, Nat.zero_mul, List.drop_zero, List.take_of_length_le (by rw [List.length_map, hfl]; exact Nat.le_refl _)]
  simp only [toD, hg]
  rw [if_pos ⟨hgen, by rw [he, hc, List.length_map, hfl]; simp, by omega, .inl ha⟩, h1, toD_dats]
  simp only [ha, he, List.map_map, Function.comp_def, List.map_id', chunk_agg hl, no_reads]

/-! What is kept of a run's end, told as a list. -/
theorem subStore_of {g : Nat → Option Obj} : ∀ {l : Store}, (∀ p ∈ l, g p.1 = some p.2) → subStore g (l.map (·.1)) = l
  | [], _ => rfl
  | p :: r, h => by
    have h1 := h p (by simp)
    have h2 := subStore_of (g := g) (l := r) fun q hq => h q (by simp [hq])
    simp only [subStore] at h2 ⊢
    simp only [List.map_cons, List.filterMap_cons, h1, Option.map_some]
    rw [h2]
/-- objects that a run's end keeps: all that they lead to is kept -/
structure Kept (g : Nat → Option Obj) (ids : List Nat) (p : Nat × Obj) : Prop where
  get : g p.1 = some p.2
  refs : (refsL p.2.cells).all (fun x => ids.contains x) = true
def AllKept (g : Nat → Option Obj) (ids : List Nat) (l : Store) : Prop := ∀ p ∈ l, Kept g ids p
theorem AllKept.nil {g : Nat → Option Obj} {ids : List Nat} : AllKept g ids [] := fun _ h => absurd h (by simp)
theorem AllKept.cons {g : Nat → Option Obj} {ids : List Nat} {o : Nat} {ob : Obj} {l : Store} (h1 : g o = some ob) (h2 : (refsL ob.cells).all (fun x => ids.contains x) = true) (h : AllKept g ids l) : AllKept g ids ((o, ob) :: l) := by
  intro p hp
  rcases List.mem_cons.1 hp with rfl | hp
  · exact ⟨h1, h2⟩
  · exact h p hp
theorem dataO_of {g : Nat → Option Obj} {o : Nat} {ob : Obj} {cs : List (D × List Nat)} (hg : g o = some ob) (hc : ob.cells.mapM (toD g 40) = some cs) : dataO g o = some ((o, { ob with cells := cs.map fun c => .dat c.1 }), cs.flatMap (·.2)) := by
  unfold dataO
  simp only [hg, hc, forceDN_eq]
section
variable [Sig] {P : Program} {an : An}
theorem Run.weakL {c : Code} {s s1 : St} {x : X} (h : Run P c s x s1) {st : Store} {keep : List Bool} {nx : Nat} {ids : List Nat} (hi : ids = st.map (·.1)) (hk : AllKept (getO s1.st) ids st)
    (hm : (refsL (maskU keep s1.tm)).all (fun x => ids.contains x) = true) (hs : s.st.all (fun p => ids.contains p.1) = true) (hn : ids.all (fun x => decide (x < nx)) = true) {tm : List U} (he : maskU keep s1.tm = tm) : Run P c s x ⟨tm, st, nx⟩ := by
  have hsub : subStore (getO s1.st) ids = st := by rw [hi]; exact subStore_of fun p hp => (hk p hp).get
  have hw : weakB s s1 ids keep nx = true := by
    unfold weakB closed
    rw [mask_eq]
    simp only [Bool.and_eq_true]
    refine ⟨⟨⟨?_, hm⟩, hs⟩, hn⟩
    rw [List.all_eq_true]
    intro o ho
    rw [hi] at ho
    obtain ⟨p, hp, rfl⟩ := List.mem_map.1 ho
    rw [(hk p hp).get]
    exact (hk p hp).refs
  have := h.weak hw
  have e : weakS s1 ids keep nx = ⟨tm, st, nx⟩ := by
    unfold weakS
    rw [mask_eq, hsub, he]
  rw [e] at this
  exact this
theorem Run.dataL {c : Code} {s s1 : St} {x : X} (h : Run P c s x s1) {ids : List Nat} {keep : List Bool} {nx : Nat} {l : List ((Nat × Obj) × List Nat)} (hl : ids.mapM (dataO (getO s1.st)) = some l)
    (hr : (l.flatMap (·.2)).all (fun x => !ids.contains x) = true) (hm : (refsL (maskU keep s1.tm)).all (fun x => ids.contains x) = true) (hs : s.st.all (fun p => ids.contains p.1) = true) (hn : ids.all (fun x => decide (x < nx)) = true)
    {tm : List U} (he : maskU keep s1.tm = tm) {st : Store} (hst : l.map (·.1) = st) : Run P c s x ⟨tm, st, nx⟩ := by
  refine h.data (ids := ids) (keep := keep) (nx := nx) ?_
  unfold weakD
  simp only [hl]
  rw [mask_eq, if_pos (by simp only [Bool.and_eq_true]; exact ⟨⟨⟨hr, hm⟩, hs⟩, hn⟩)]
  simp only [forceUp_eq, forceL_eq, hst, he]
/-- A region, operation by operation; what is kept of its end, told as a list. -/
theorem Run.stepsL (hN : Good P an) (hR : RegsP P) (hm : P.follows .mixedOrders = true) {id : Nat} {ops : Array Oper} {s s1 : St} {st : Store} {keep : List Bool} {nx : Nat} {ids : List Nat} {tm : List U} (hg : Regs (.region id ops false))
    (h : Steps P an ops s.nx 0 ⟨s.tm, s.st, s.nx + 8 * ops.size⟩ s1) (hi : ids = st.map (·.1)) (hk : AllKept (getO s1.st) ids st) (hm : (refsL (maskU keep s1.tm)).all (fun x => ids.contains x) = true) (hs : s.st.all (fun p => ids.contains p.1) = true)
    (hn : ids.all (fun x => decide (x < nx)) = true) (he : maskU keep s1.tm = tm) : Run P (.region id ops false) s .normal ⟨tm, st, nx⟩ :=
  (Run.of_steps hN hR ‹_› hg h).weakL hi hk hm hs hn he
end
end Go.Proofs.Ytjofhegodknmaaa.V
