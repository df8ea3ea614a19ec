/- V, 3: what is done to the objects, as told by SR and Evo. -/
import Derived.Test.YtjofhegodknmaaaV2
set_option linter.unusedSimpArgs false
set_option linter.unusedVariables false
namespace Go.Proofs.Ytjofhegodknmaaa.V
open Go
theorem getO_setO (s : Store) (o : Nat) (e : Obj) (x : Nat) : getO (setO s o e) x = if x = o then some e else getO s x := by
  induction s with
  | nil => simp [setO, getO, eq_comm]
  | cons p r ih =>
    obtain ⟨o', e'⟩ := p
    simp only [setO]
    by_cases h : o' = o
    · subst h
      simp only [if_true, getO]
      by_cases hx : o' = x
      · simp [hx]
      · have : ¬ x = o' := fun h => hx h.symm
        simp [hx, this]
    · simp only [if_neg h, getO, ih]
      by_cases hx : o' = x
      · subst hx
        simp [h]
      · simp [hx]
theorem getO_setAll : ∀ (l : List (Nat × Obj)) (s : Store), getO (setAll s l) = updF (getO s) l := by
  intro l
  induction l with
  | nil => intro s; rfl
  | cons p r ih =>
    intro s
    obtain ⟨o, e⟩ := p
    simp only [setAll, updF]
    rw [ih]
    congr 1
    funext x
    exact getO_setO s o e x
theorem updF_append (g : Nat → Option Obj) (a b : List (Nat × Obj)) : updF g (a ++ b) = updF (updF g a) b := by
  induction a generalizing g with
  | nil => rfl
  | cons p r ih => obtain ⟨o, e⟩ := p; simp only [List.cons_append, updF]; exact ih _
theorem heap_old (w : World) (o : Go.Obj) {k : Nat} (hk : k < w.heap.size) : (w.alloc o).heap[k]? = w.heap[k]? := by
  show (w.heap.push o)[k]? = _
  rw [Array.getElem?_push]
  simp [Nat.ne_of_lt hk]
theorem updF_snap (g : Nat → Option Obj) : ∀ (ids : List Nat) (g' : Nat → Option Obj), (∀ o, g' o = g o ∨ g' o = (g o).map fun ob => { ob with snap := true }) → ∀ x,
    updF g' (snapAll g ids) x = if x ∈ ids then (g x).map fun ob => { ob with snap := true } else g' x := by
  intro ids
  induction ids with
  | nil => intro g' _ x; simp [snapAll, updF]
  | cons o r ih =>
    intro g' hg' x
    unfold snapAll
    cases e : g o with
    | none =>
      have e0 : List.filterMap (fun o => Option.map (fun ob => (o, { ob with snap := true })) (g o)) (o :: r) = snapAll g r := by simp [snapAll, e]
      rw [e0, ih g' hg' x]
      by_cases hx : x ∈ r
      · simp [hx]
      · by_cases hxo : x = o
        · subst hxo
          have : g' x = none := by rcases hg' x with h | h <;> simp [h, e]
          simp [hx, e, this]
        · simp [hx, hxo]
    | some ob =>
      have e0 : List.filterMap (fun o => Option.map (fun ob => (o, { ob with snap := true })) (g o)) (o :: r) = (o, { ob with snap := true }) :: snapAll g r := by simp [snapAll, e]
      rw [e0]
      simp only [updF]
      rw [ih]
      · by_cases hx : x ∈ r
        · simp [hx]
        · by_cases hxo : x = o
          · subst hxo
            simp [hx, e]
          · simp [hx, hxo]
      · intro y
        by_cases hy : y = o
        · subst hy
          right
          simp [e]
        · simp only [hy, if_false]
          exact hg' y
theorem toD_one {g : Nat → Option Obj} : ∀ (k : Nat) {u : U} {r : D × List Nat}, toD g k u = some r → u.one = true → r.1.one = true := by
  intro k u r h ho
  cases k with
  | zero => simp [toD] at h
  | succ k =>
    cases u with
    | dat d => simp [toD] at h; subst h; exact ho
    | agg cs => simp [U.one] at ho
    | tup l => simp [U.one] at ho
    | undef => simp [U.one] at ho
    | junk => simp [U.one] at ho
    | map o gn => simp [toD] at h
    | ptr o gn p =>
      simp only [toD] at h
      repeat' split at h
      all_goals first | (simp at h; done) | (obtain rfl := Option.some.inj h; rfl)
    | own o gn off n =>
      simp only [toD] at h
      repeat' split at h
      all_goals first | (simp at h; done) | (obtain rfl := Option.some.inj h; rfl)
    | fn f caps =>
      simp only [toD] at h
      repeat' split at h
      all_goals first | (simp at h; done) | (obtain rfl := Option.some.inj h; rfl)
theorem chunk_length (ag : Bool) (esz : Nat) : ∀ (n : Nat) (l : List D), (chunk ag esz n l).length = n := by
  intro n
  induction n with
  | zero => intro l; rfl
  | succ n ih => intro l; simp [chunk, ih]
variable [Sig]
theorem noF {w : World} {F : Mem} {L : Lay} {b0 : Nat} {st : Nat → Option Obj} (h : SR w F L b0 st) {a : Addr} (ha : w.heap.size ≤ a.block) : F a = none := by
  cases e : F a with
  | none => rfl
  | some v =>
    have := World.block_lt_of_cell? w a (h.mem a v e)
    omega
theorem F_spot {w : World} {F : Mem} {L : Lay} {b0 : Nat} {st : Nat → Option Obj} (h : SR w F L b0 st) {a : Addr} {v : Value} (ha : F a = some v) : a.spot = none := by
  have := h.mem a v ha
  unfold World.cell? at this
  split at this
  · split at this
    · simp at this
    · rename_i hs
      simpa using hs
  · simp at this
theorem blk_lt {w : World} {F : Mem} {L : Lay} {b0 : Nat} {st : Nat → Option Obj} (h : SR w F L b0 st) {o : Nat} {i : Info} (hi : L o = some i) : i.blk < w.heap.size := by
  cases e : st o with
  | none => rw [h.non o e] at hi; simp at hi
  | some ob =>
    obtain ⟨j, arr, hj, _, _, _, _, hh, _⟩ := h.obj o ob e
    rw [hi] at hj
    obtain rfl := Option.some.inj hj
    exact hh.lt
def LPut (L : Lay) (o : Nat) (i : Info) : Lay := fun x => if x = o then some i else L x
theorem SR.upd {w w' : World} {F : Mem} {L : Lay} {b0 : Nat} {g : Nat → Option Obj} (h : SR w F L b0 g) (o : Nat) (ob : Obj) (i : Info) (arr : Array Value)
    (hs : w.heap.size ≤ w'.heap.size) (hos : w'.os = w.os) (htp : w'.tape = w.tape) (hout : w'.output = w.output)
    (hoth : ∀ k, k < w.heap.size → k ≠ i.blk → w'.heap[k]? = w.heap[k]?)
    (hnew : ObjAt w' i.blk arr ob) (hmp : ob.esz = 0 → ∀ off, F ⟨i.blk, off, none⟩ = none) (hsz : 0 < ob.esz → i.size = arr.size) (hgen : i.gen = ob.gen) (hesz : i.esz = ob.esz) (hb0 : b0 ≤ i.blk)
    (hlen : ob.cells.length ≤ arr.size)
    (hF : ∀ off v, F ⟨i.blk, off, none⟩ = some v → arr[off]? = some v)
    (hsn : ∀ off, (ob.snap = true → ob.cells.length ≤ off) → F ⟨i.blk, off, none⟩ = none)
    (hblk : (∃ j, L o = some j ∧ j.blk = i.blk ∧ (i = j ∨ j.gen < i.gen)) ∨ (w.heap.size ≤ i.blk ∧ ∀ j, L o = some j → j.gen < i.gen))
    (hcells : ∀ (j : Nat) u, ob.cells[j]? = some u → (0 < ob.esz → u.one = true) ∧ ∃ v, arr[j]? = some v ∧ (RepU F L u v ∨ RepU F (LPut L o i) u v)) :
    SR w' F (LPut L o i) b0 (fun x => if x = o then some ob else g x) ∧ Evo w F L w' F (LPut L o i) := by
  have hle : LLe L (LPut L o i) := by
    intro x j hj
    by_cases e : x = o
    · subst e
      refine ⟨i, by simp [LPut], ?_⟩
      rcases hblk with ⟨j', hj', _, r⟩ | ⟨_, r⟩
      · rw [hj] at hj'
        obtain rfl := Option.some.inj hj'
        exact r
      · exact .inr (r j hj)
    · exact ⟨j, by simp [LPut, e, hj], .inl rfl⟩
  have hne : ∀ x j, x ≠ o → L x = some j → j.blk ≠ i.blk := by
    intro x j hx hj e
    rcases hblk with ⟨j', hj', he, _⟩ | ⟨hb, _⟩
    · exact hx (h.inj x o j j' hj hj' (e.trans he.symm))
    · have := blk_lt h hj
      omega
  refine ⟨⟨?_, ?_, ?_, ?_⟩, ⟨hs, hos, htp, hout, .refl _, hle, ?_, fun _ hx => absurd rfl hx, ?_⟩⟩
  · intro a v ha
    have hc := h.mem a v ha
    have hsp := F_spot h ha
    by_cases e : a.block = i.blk
    · have ea : a = ⟨i.blk, a.off, none⟩ := by cases a; simp_all
      rw [ea] at ha ⊢
      have := hF a.off v ha
      rcases Nat.eq_zero_or_pos ob.esz with h0 | h0
      · rw [hmp h0] at ha; simp at ha
      · rw [(hnew.row h0).cell, this]
    · have hlt := World.block_lt_of_cell? w a hc
      rw [World.cell?_of_block (hoth a.block hlt e)]
      exact hc
  · intro x hx
    by_cases e : x = o
    · simp [e] at hx
    · simp only [e, if_false] at hx
      simp [LPut, e, h.non x hx]
  · intro x ob' hx
    by_cases e : x = o
    · subst e
      simp only [if_true] at hx
      obtain rfl := Option.some.inj hx
      refine ⟨i, arr, by simp [LPut], hgen, hesz, hsz, hb0, hnew, hlen, fun j u hu => ?_, hsn⟩
      obtain ⟨h1, v, hv, hr⟩ := hcells j u hu
      refine ⟨h1, v, hv, ?_⟩
      rcases hr with hr | hr
      · exact hr.mono (.refl _) hle
      · exact hr
    · simp only [e, if_false] at hx
      obtain ⟨j, arr', hj, r1, r2, r3, r4, hh, r5, hc, hfr⟩ := h.obj x ob' hx
      refine ⟨j, arr', by simp [LPut, e, hj], r1, r2, r3, r4, ?_, r5, fun k u hu => ?_, hfr⟩
      · exact hh.same (hoth j.blk hh.lt (hne x j e hj))
      · obtain ⟨h1, v, hv, hr⟩ := hc k u hu
        exact ⟨h1, v, hv, hr.mono (.refl _) hle⟩
  · intro x y j j' hj hj' e
    by_cases ex : x = o
    · by_cases ey : y = o
      · rw [ex, ey]
      · exfalso
        simp only [LPut, ex, if_true] at hj
        simp only [LPut, ey, if_false] at hj'
        obtain rfl := Option.some.inj hj
        exact hne y j' ey hj' e.symm
    · by_cases ey : y = o
      · exfalso
        simp only [LPut, ey, if_true] at hj'
        simp only [LPut, ex, if_false] at hj
        obtain rfl := Option.some.inj hj'
        exact hne x j ex hj e
      · simp only [LPut, ex, if_false] at hj
        simp only [LPut, ey, if_false] at hj'
        exact h.inj x y j j' hj hj' e
  · intro k hk hn
    refine hoth k hk fun e => ?_
    rcases hblk with ⟨j, hj, he, _⟩ | ⟨hb, _⟩
    · exact hn o j hj (he.trans e.symm)
    · omega
  · intro x j hj
    by_cases e : x = o
    · subst e
      simp only [LPut, if_true] at hj
      obtain rfl := Option.some.inj hj
      rcases hblk with ⟨j', hj', he, _⟩ | ⟨hb, _⟩
      · exact .inl ⟨x, j', hj', he⟩
      · exact .inr hb
    · simp only [LPut, e, if_false] at hj
      exact .inl ⟨x, j, hj, rfl⟩
theorem SR.alloc {w : World} {F : Mem} {L : Lay} {b0 : Nat} {g : Nat → Option Obj} (h : SR w F L b0 g) (o : Nat) (ob : Obj) (arr : Array Value) (hb0 : b0 ≤ w.heap.size) (hg : g o = none)
    (he : 0 < ob.esz) (h0 : ob.gen = 0) (hlen : ob.cells.length ≤ arr.size) (hcells : ∀ (j : Nat) u, ob.cells[j]? = some u → u.one = true ∧ ∃ v, arr[j]? = some v ∧ RepU F L u v) :
    ∃ i, LPut L o i o = some i ∧ i.gen = 0 ∧ i.blk = w.heap.size ∧ i.size = arr.size ∧ i.esz = ob.esz ∧
      SR (w.alloc (.cells arr ob.ty)) F (LPut L o i) b0 (fun x => if x = o then some ob else g x) ∧ Evo w F L (w.alloc (.cells arr ob.ty)) F (LPut L o i) := by
  have hnone : L o = none := h.non o hg
  refine ⟨⟨0, w.heap.size, arr.size, ob.esz⟩, by simp [LPut], rfl, rfl, rfl, rfl, ?_⟩
  refine h.upd o ob ⟨0, w.heap.size, arr.size, ob.esz⟩ arr (by simp) rfl rfl rfl (fun k hk _ => heap_old w _ hk) (.inl ⟨he, .new (heap_alloc_new w _)⟩) (fun h => absurd h (by show ¬ ob.esz = 0; omega)) (fun _ => rfl) h0.symm rfl hb0 hlen
    (fun off v hv => ?_) (fun off _ => noF h (Nat.le_refl _)) (.inr ⟨Nat.le_refl _, fun j hj => by rw [hnone] at hj; simp at hj⟩) (fun j u hu => ?_)
  · rw [noF h (a := ⟨w.heap.size, off, none⟩) (Nat.le_refl _)] at hv
    simp at hv
  · obtain ⟨h1, v, hv, hr⟩ := hcells j u hu
    exact ⟨fun _ => h1, v, hv, .inl hr⟩
theorem Evo.drew {w : World} {F : Mem} {L : Lay} {w' : World} {F' : Mem} {L' : Lay} (h : Evo w F L w' F' L') : Evo w F L w'.drew F' L' :=
  have _s : Sig := inferInstance; ⟨h.size, h.os, h.tape, h.output, h.memLe, h.layLe, h.frame, h.newMem, h.newObj⟩
theorem SR.drew {w : World} {F : Mem} {L : Lay} {b0 : Nat} {g : Nat → Option Obj} (h : SR w F L b0 g) : SR w.drew F L b0 g :=
  ⟨h.mem, h.non, h.obj, h.inj⟩
theorem Evo.ofDrew {w : World} {F : Mem} {L : Lay} {w' : World} {F' : Mem} {L' : Lay} (h : Evo w.drew F L w' F' L') : Evo w F L w' F' L' :=
  have _s : Sig := inferInstance; ⟨h.size, h.os, h.tape, h.output, h.memLe, h.layLe, h.frame, h.newMem, h.newObj⟩
open Classical in
noncomputable def FS (F : Mem) (w : World) (L : Lay) (g : Nat → Option Obj) (S : List Nat) : Mem := fun a =>
  match F a with
  | some v => some v
  | none => if (∃ o ∈ S, ∃ i ob, g o = some ob ∧ L o = some i ∧ i.blk = a.block ∧ a.off < ob.cells.length ∧ a.spot = none) then w.cell? a else none
theorem FS_le (F : Mem) (w : World) (L : Lay) (g : Nat → Option Obj) (S : List Nat) : MLe F (FS F w L g S) := have _s : Sig := inferInstance; fun a v h => by simp [FS, h]
theorem FS_mono {F : Mem} {w : World} {L : Lay} {g : Nat → Option Obj} {S S' : List Nat} (h : ∀ o ∈ S, o ∈ S') : MLe (FS F w L g S) (FS F w L g S') := by
  have _s : Sig := inferInstance
  intro a v ha
  unfold FS at ha ⊢
  cases e : F a with
  | some x => rw [e] at ha; exact ha
  | none =>
    rw [e] at ha
    simp only at ha ⊢
    split at ha
    · rename_i hx
      obtain ⟨o, ho, r⟩ := hx
      rw [if_pos ⟨o, h o ho, r⟩]
      exact ha
    · simp at ha
theorem FS_at {F : Mem} {w : World} {L : Lay} {b0 : Nat} {g : Nat → Option Obj} {S : List Nat} (h : SR w F L b0 g) {o : Nat} {ob : Obj} {i : Info} (ho : o ∈ S) (hg : g o = some ob) (hL : L o = some i) {off : Nat} (hoff : off < ob.cells.length) :
    FS F w L g S ⟨i.blk, off, none⟩ = w.cell? ⟨i.blk, off, none⟩ := by
  unfold FS
  cases e : F ⟨i.blk, off, none⟩ with
  | some x => exact (h.mem _ _ e).symm
  | none => simp only; rw [if_pos ⟨o, ho, i, ob, hg, hL, rfl, hoff, rfl⟩]
theorem SR.snapped {w : World} {F : Mem} {L : Lay} {b0 : Nat} {g : Nat → Option Obj} (h : SR w F L b0 g) (ids : List Nat) :
    SR w (FS F w L g ids) L b0 (updF g (snapAll g ids)) ∧ Evo w F L w (FS F w L g ids) L := by
  have hu := updF_snap g ids g (fun _ => .inl rfl)
  refine ⟨⟨?_, ?_, ?_, h.inj⟩, ⟨Nat.le_refl _, rfl, rfl, rfl, FS_le _ _ _ _ _, .refl _, fun _ _ _ => rfl, ?_, fun o i hi => .inl ⟨o, i, hi, rfl⟩⟩⟩
  · intro a v ha
    unfold FS at ha
    cases e : F a with
    | some x => rw [e] at ha; exact h.mem a v (by rw [e]; exact ha)
    | none =>
      rw [e] at ha
      simp only at ha
      split at ha
      · exact ha
      · simp at ha
  · intro o ho
    rw [hu] at ho
    apply h.non
    split at ho
    · simpa using ho
    · exact ho
  · intro o ob' ho
    rw [hu] at ho
    obtain ⟨ob, hob, hc, ht, hg, he, hs⟩ : ∃ ob, g o = some ob ∧ ob'.cells = ob.cells ∧ ob'.ty = ob.ty ∧ ob'.gen = ob.gen ∧ ob'.esz = ob.esz ∧ ((o ∈ ids ∧ ob'.snap = true) ∨ (o ∉ ids ∧ ob' = ob)) := by
      split at ho
      · rename_i hin
        obtain ⟨ob, hob, rfl⟩ := Option.map_eq_some_iff.1 ho
        exact ⟨ob, hob, rfl, rfl, rfl, rfl, .inl ⟨hin, rfl⟩⟩
      · rename_i hin
        exact ⟨ob', ho, rfl, rfl, rfl, rfl, .inr ⟨hin, rfl⟩⟩
    obtain ⟨i, arr, hL, r1, r2, r3, r4, hh, r5, hcs, hfr⟩ := h.obj o ob hob
    refine ⟨i, arr, hL, by rw [r1, hg], by rw [r2, he], by rw [he]; exact r3, r4, hh.like ht he (by rw [hc]), by rw [hc]; exact r5, fun j u hu => ?_, fun off hoff => ?_⟩
    · rw [hc] at hu
      obtain ⟨h1, v, hv, hr⟩ := hcs j u hu
      exact ⟨by rw [he]; exact h1, v, hv, hr.mono (FS_le _ _ _ _ _) (.refl _)⟩
    · have hF : F ⟨i.blk, off, none⟩ = none := by
        apply hfr
        intro hsn
        rcases hs with ⟨_, hs⟩ | ⟨_, rfl⟩
        · rw [← hc]; exact hoff hs
        · exact hoff hsn
      unfold FS
      rw [hF]
      simp only
      rw [if_neg]
      rintro ⟨o', ho', i', ob2, hg', hL', hb, hlt, _⟩
      have := h.inj o' o i' i hL' hL hb
      subst this
      rw [hob] at hg'
      obtain rfl := Option.some.inj hg'
      rcases hs with ⟨_, hs⟩ | ⟨hn, _⟩
      · have := hoff hs
        rw [hc] at this
        omega
      · exact hn ho'
  · intro a ha
    unfold FS at ha
    cases e : F a with
    | some x => rw [e] at ha; exact absurd rfl ha
    | none =>
      rw [e] at ha
      simp only at ha
      split at ha
      · rename_i hx
        obtain ⟨o, _, i, _, _, hL, hb, _⟩ := hx
        exact .inr ⟨o, i, hL, hb⟩
      · exact absurd rfl ha
theorem chunk_get (ag : Bool) (esz : Nat) (hag : ag = true ∨ esz = 1) (h0 : 0 < esz) : ∀ (n : Nat) (l : List D), l.length = n * esz → (∀ (i : Nat) y, l[i]? = some y → y.one = true) →
    ∀ (i : Nat) x, (chunk ag esz n l)[i]? = some x → x.cells.length = esz ∧ ∀ (j : Nat) y, x.cells[j]? = some y → l[i * esz + j]? = some y ∧ y.one = true := by
  have _s : Sig := inferInstance
  intro n
  induction n with
  | zero => intro l _ _ i x h; simp [chunk] at h
  | succ n ih =>
    intro l hl ho i x h
    have hl' : l.length = n * esz + esz := by rw [hl, Nat.succ_mul]
    cases i with
    | zero =>
      simp only [chunk, List.getElem?_cons_zero, Option.some.injEq] at h
      subst h
      by_cases ha : ag = true
      · simp only [ha, if_true, D.cells]
        refine ⟨by simp; omega, fun j y hy => ?_⟩
        rw [List.getElem?_take] at hy
        split at hy
        · simp only [Nat.zero_mul, Nat.zero_add]
          exact ⟨hy, ho j y hy⟩
        · simp at hy
      · have he : esz = 1 := by rcases hag with h | h; exact absurd h ha; exact h
        have hlt : 0 < l.length := by omega
        simp only [ha, if_false, Bool.false_eq_true]
        have hhd : l.headD .nil = l[0] := by cases l with | nil => simp at hlt | cons a r => rfl
        have h1 := ho 0 l[0] (List.getElem?_eq_getElem hlt)
        rw [hhd, D.cells_one h1]
        refine ⟨he.symm, fun j y hy => ?_⟩
        cases j with
        | zero =>
          simp at hy
          subst hy
          simp only [Nat.zero_mul, Nat.zero_add]
          exact ⟨List.getElem?_eq_getElem hlt, h1⟩
        | succ j => simp at hy
    | succ i =>
      simp only [chunk, List.getElem?_cons_succ] at h
      obtain ⟨h1, h2⟩ := ih (l.drop esz) (by simp; omega) (fun k y hy => ho (esz + k) y (by rw [List.getElem?_drop] at hy; exact hy)) i x h
      refine ⟨h1, fun j y hy => ?_⟩
      obtain ⟨h3, h4⟩ := h2 j y hy
      rw [List.getElem?_drop] at h3
      refine ⟨?_, h4⟩
      rw [← h3]
      congr 1
      rw [Nat.succ_mul]
      omega
theorem add_none (b o j : Nat) : (⟨b, o, none⟩ : Addr).add j = ⟨b, o + j, none⟩ := by have _s : Sig := inferInstance; unfold Addr.add; split <;> simp_all
theorem add_add' (a : Addr) (i j : Nat) : (a.add i).add j = a.add (i + j) := by
  have _s : Sig := inferInstance
  unfold Addr.add
  by_cases hi : i = 0
  · subst hi; simp
  · by_cases hj : j = 0
    · subst hj; simp [hi]
    · simp [hi, hj, Nat.add_assoc]
theorem toD_rep {w : World} {F : Mem} {L : Lay} {b0 : Nat} {g : Nat → Option Obj} (h : SR w F L b0 g) : ∀ (k : Nat) (u : U) (v : Value) (r : D × List Nat), toD g k u = some r → RepU F L u v → Rep (FS F w L g r.2) r.1 v := by
  intro k
  induction k with
  | zero => intro u v r hd; simp [toD] at hd
  | succ k ih =>
    intro u v r hd hr
    have hcells : ∀ (o : Nat) (ob : Obj) (i : Info), 0 < ob.esz → g o = some ob → L o = some i → ∀ (p m : Nat) (cs : List (D × List Nat)), ((ob.cells.drop p).take m).mapM (toD g k) = some cs → ∀ S : List Nat, o ∈ S → (∀ x ∈ cs.flatMap (·.2), x ∈ S) →
        ∀ (j : Nat) (y : D), (cs.map (·.1))[j]? = some y → y.one = true ∧ ∃ x, FS F w L g S ⟨i.blk, p + j, none⟩ = some x ∧ Rep (FS F w L g S) y x := by
      intro o ob i he0 hg hL p m cs hcs S hS hin j y hy
      obtain ⟨c, hc, rfl⟩ : ∃ c, cs[j]? = some c ∧ c.1 = y := by
        rw [List.getElem?_map] at hy
        exact Option.map_eq_some_iff.1 hy
      obtain ⟨u', hu', hd'⟩ := mapM_back hcs hc
      have hu2 : ob.cells[p + j]? = some u' := by
        rw [List.getElem?_take] at hu'
        split at hu'
        · rw [List.getElem?_drop] at hu'; exact hu'
        · simp at hu'
      obtain ⟨i', arr, hL', r1, r2, r3, r4, hh, r5, hcs', hfr⟩ := h.obj o ob hg
      rw [hL] at hL'
      obtain rfl := Option.some.inj hL'
      obtain ⟨h1, x, hx, hrx⟩ := hcs' (p + j) u' hu2
      refine ⟨toD_one k hd' (h1 he0), x, ?_, ?_⟩
      · rw [FS_at h hS hg hL (List.getElem?_eq_some_iff.1 hu2).1]
        rw [(hh.row he0).cell, hx]
      · exact (ih u' x c hd' hrx).mono (FS_mono fun z hz => hin z (List.mem_flatMap.2 ⟨c, List.mem_of_getElem? hc, hz⟩))
    cases u with
    | dat d =>
      simp only [toD, Option.some.injEq] at hd
      subst hd
      cases hr with
      | dat _ _ hr => exact hr.mono (FS_le _ _ _ _ _)
    | own o gn off n =>
      simp only [toD] at hd
      split at hd
      · rename_i ob hg
        split at hd
        · rename_i hcond
          obtain ⟨hgn, hlen, hesz, hag⟩ := hcond
          split at hd
          · rename_i cs hcs
            obtain rfl := Option.some.inj hd
            obtain ⟨i, arr, hL, r1, r2, r3, r4, hh, r5, hcs', hfr⟩ := h.obj o ob hg
            have hS : o ∈ o :: cs.flatMap (·.2) := List.mem_cons_self
            have hin : ∀ x ∈ cs.flatMap (·.2), x ∈ o :: cs.flatMap (·.2) := fun x hx => List.mem_cons_of_mem _ hx
            have hc := hcells o ob i hesz hg hL (off * ob.esz) (n * ob.esz) cs hcs _ hS hin
            have hcl : (cs.map (·.1)).length = n * ob.esz := by
              have := (mapM_some hcs).1
              rw [Nat.add_mul] at hlen
              simp at this ⊢
              omega
            have hget := chunk_get ob.ag ob.esz hag hesz n (cs.map (·.1)) hcl (fun j y hy => (hc j y hy).1)
            have hll := chunk_length ob.ag ob.esz n (cs.map (·.1))
            have hval : ∃ a c, v = .slice (some a) n c ∧ n ≤ c ∧ (0 < n → a = ⟨i.blk, off * ob.esz, none⟩) := by
              cases hr with
              | own _ _ _ c i' hL' hn hc' =>
                rw [hL] at hL'
                obtain rfl := Option.some.inj hL'
                exact ⟨_, c, rfl, hn, fun _ => by rw [r2]⟩
              | ownEnd _ _ i' a hL' => exact ⟨a, 0, rfl, Nat.le_refl _, fun h0 => absurd h0 (Nat.lt_irrefl 0)⟩
              | ownOld _ _ _ _ i' a c hL' hlt =>
                rw [hL] at hL'
                obtain rfl := Option.some.inj hL'
                omega
            obtain ⟨a, c, rfl, hnc, ha⟩ := hval
            have hex : ∀ (i' j : Nat), ∃ x, ∀ X y, (chunk ob.ag ob.esz n (cs.map (·.1)))[i']? = some X → X.cells[j]? = some y → FS F w L g (o :: cs.flatMap (·.2)) (a.add (i' * ob.esz + j)) = some x ∧ Rep (FS F w L g (o :: cs.flatMap (·.2))) y x := by
              intro i' j
              by_cases hX : ∃ X y, (chunk ob.ag ob.esz n (cs.map (·.1)))[i']? = some X ∧ X.cells[j]? = some y
              · obtain ⟨X, y, hX, hy⟩ := hX
                obtain ⟨_, h2⟩ := hget i' X hX
                obtain ⟨h3, _⟩ := h2 j y hy
                obtain ⟨_, x, hx, hrx⟩ := hc _ y h3
                refine ⟨x, fun X' y' hX' hy' => ?_⟩
                rw [hX] at hX'
                obtain rfl := Option.some.inj hX'
                rw [hy] at hy'
                obtain rfl := Option.some.inj hy'
                have h0 : 0 < n := by
                  have := (List.getElem?_eq_some_iff.1 hX).1
                  rw [hll] at this
                  omega
                rw [ha h0, add_none]
                exact ⟨hx, hrx⟩
              · exact ⟨Go.undef, fun X y h1 h2 => absurd ⟨X, y, h1, h2⟩ hX⟩
            have key := Rep.lst (F := FS F w L g (o :: cs.flatMap (·.2))) (chunk ob.ag ob.esz n (cs.map (·.1))) a c ob.esz (fun i' j => (hex i' j).choose) (by rw [hll]; exact hnc)
              (fun X hX => by
                obtain ⟨i', hi'⟩ := List.getElem?_of_mem hX
                exact (hget i' X hi').1)
              (fun i' X j y hX hy => ((hget i' X hX).2 j y hy).2)
              (fun i' X j y hX hy => ((hex i' j).choose_spec X y hX hy).1)
              (fun i' X j y hX hy => ((hex i' j).choose_spec X y hX hy).2)
            rw [hll] at key
            exact key
          · simp at hd
        · simp at hd
      · simp at hd
    | ptr o gn p =>
      simp only [toD] at hd
      split at hd
      · rename_i ob hg
        split at hd
        · rename_i hgn
          split at hd
          · rename_i cs hcs
            obtain rfl := Option.some.inj hd
            obtain ⟨i, arr, hL, r1, r2, r3, r4, hh, r5, hcs', hfr⟩ := h.obj o ob hg
            have hcs2 : ((ob.cells.drop p).take ob.cells.length).mapM (toD g k) = some cs := by
              rw [List.take_of_length_le (by simp)]; exact hcs
            have hc := hcells o ob i hgn.2 hg hL p ob.cells.length cs hcs2 (o :: cs.flatMap (·.2)) List.mem_cons_self (fun x hx => List.mem_cons_of_mem _ hx)
            have hval : v = .pointer (some ⟨i.blk, p, none⟩) := by
              cases hr with
              | ptr _ _ i' hL' =>
                rw [hL] at hL'
                obtain rfl := Option.some.inj hL'
                rfl
              | ptrOld _ _ _ i' a hL' hlt =>
                rw [hL] at hL'
                obtain rfl := Option.some.inj hL'
                omega
            subst hval
            have hex : ∀ (j : Nat), ∃ x, ∀ y, (cs.map (·.1))[j]? = some y → FS F w L g (o :: cs.flatMap (·.2)) ((⟨i.blk, p, none⟩ : Addr).add j) = some x ∧ Rep (FS F w L g (o :: cs.flatMap (·.2))) y x := by
              intro j
              cases hy : (cs.map (·.1))[j]? with
              | none => exact ⟨Go.undef, fun y h => by simp at h⟩
              | some y =>
                obtain ⟨_, x, hx, hrx⟩ := hc j y hy
                refine ⟨x, fun y' hy' => ?_⟩
                obtain rfl := Option.some.inj hy'
                rw [add_none]
                exact ⟨hx, hrx⟩
            exact .fp _ _ (fun j => (hex j).choose) rfl (fun j y hy => (hc j y hy).1) (fun j y hy => ((hex j).choose_spec y hy).1) (fun j y hy => ((hex j).choose_spec y hy).2)
          · simp at hd
        · simp at hd
      · simp at hd
    | agg cs =>
      simp only [toD] at hd
      split at hd
      · rename_i ds hds
        obtain rfl := Option.some.inj hd
        cases hr with
        | agg _ vs hl ho hR =>
          have hdl := (mapM_some hds).1
          refine .agg _ vs (by simp [hl, hdl]) (fun i y hy => ?_) (fun i y v hy hv => ?_)
          · rw [List.getElem?_map] at hy
            obtain ⟨c, hc, rfl⟩ := Option.map_eq_some_iff.1 hy
            obtain ⟨u', hu', hd'⟩ := mapM_back hds hc
            exact toD_one k hd' (ho i u' hu')
          · rw [List.getElem?_map] at hy
            obtain ⟨c, hc, rfl⟩ := Option.map_eq_some_iff.1 hy
            obtain ⟨u', hu', hd'⟩ := mapM_back hds hc
            exact (ih u' v c hd' (hR i u' v hu' hv)).mono (FS_mono fun z hz => List.mem_flatMap.2 ⟨c, List.mem_of_getElem? hc, hz⟩)
      · simp at hd
    | fn f caps =>
      simp only [toD] at hd
      split at hd
      · rename_i ds hds
        obtain rfl := Option.some.inj hd
        cases hr with
        | fn _ _ vs hl hR =>
          have hdl := (mapM_some hds).1
          refine .fn _ _ vs (by simp [hl, hdl]) (fun i y v hy hv => ?_)
          rw [List.getElem?_map] at hy
          obtain ⟨c, hc, rfl⟩ := Option.map_eq_some_iff.1 hy
          obtain ⟨u', hu', hd'⟩ := mapM_back hds hc
          exact (ih u' v c hd' (hR i u' v hu' hv)).mono (FS_mono fun z hz => List.mem_flatMap.2 ⟨c, List.mem_of_getElem? hc, hz⟩)
      · simp at hd
    | tup l => simp [toD] at hd
    | undef => simp [toD] at hd
    | junk => simp [toD] at hd
    | map o gn => simp [toD] at hd
def none0 : Lay := fun _ => none
theorem SR.start {w : World} {F : Mem} {L : Lay} {b0 : Nat} {g : Nat → Option Obj} (h : SR w F L b0 g) : SR w F none0 w.heap.size (getO []) :=
  ⟨h.mem, fun _ _ => rfl, fun o ob h => by simp [getO] at h, fun o o' i i' h => by simp [none0] at h⟩
section
variable {w w' : World} {F F1 F2 : Mem} {L L0 : Lay} {b0 : Nat} {g g1 : Nat → Option Obj}
theorem SR.after (h : SR w F1 L b0 g) (hE : Evo w F1 none0 w' F2 L0) (hm : ∀ a v, F2 a = some v → w'.cell? a = some v) : SR w' F2 L b0 g := by
  refine ⟨hm, h.non, fun o ob ho => ?_, h.inj⟩
  obtain ⟨i, arr, hL, r1, r2, r3, r4, hh, r5, hcs, hfr⟩ := h.obj o ob ho
  have hlt : i.blk < w.heap.size := hh.lt
  refine ⟨i, arr, hL, r1, r2, r3, r4, hh.same (hE.frame _ hlt (fun o i h => by simp [none0] at h)), r5,
    fun j u hu => let ⟨h1, v, hv, hr⟩ := hcs j u hu; ⟨h1, v, hv, hr.mono hE.memLe (.refl _)⟩, fun off hoff => ?_⟩
  by_cases e : F2 ⟨i.blk, off, none⟩ = F1 ⟨i.blk, off, none⟩
  · rw [e]; exact hfr off hoff
  · rcases hE.newMem _ e with h1 | ⟨o', i', h1, _⟩
    · simp at h1; omega
    · simp [none0] at h1
theorem Evo.after (h : Evo w F L w F1 L) (hE : Evo w F1 none0 w' F2 L0) : Evo w F L w' F2 L where
  size := have _s : Sig := inferInstance; hE.size
  os := hE.os
  tape := hE.tape
  output := hE.output
  memLe := h.memLe.trans hE.memLe
  layLe := .refl _
  frame := fun k hk _ => hE.frame k hk (fun o i h => by simp [none0] at h)
  newMem := fun a ha => by
    by_cases e : F1 a = F a
    · rcases hE.newMem a (by rw [e]; exact ha) with h1 | ⟨o', i', h1, _⟩
      · exact .inl h1
      · simp [none0] at h1
    · exact h.newMem a e
  newObj := fun o i hi => .inl ⟨o, i, hi, rfl⟩
end
end Go.Proofs.Ytjofhegodknmaaa.V
