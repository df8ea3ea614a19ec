/- V, 2: how trees and the call's own objects stand in the model's memory. -/
import Derived.Test.YtjofhegodknmaaaV1
set_option linter.unusedSimpArgs false
set_option linter.unusedVariables false
namespace Go.Proofs.Ytjofhegodknmaaa.V
open Go
abbrev Mem := Addr → Option Value
def MLe (F F' : Mem) : Prop := ∀ a v, F a = some v → F' a = some v
theorem MLe.refl (F : Mem) : MLe F F := fun _ _ h => h
theorem MLe.trans {F G H : Mem} (h : MLe F G) (h' : MLe G H) : MLe F H := fun a v e => h' a v (h a v e)
theorem D.cells_one {d : D} (h : d.one = true) : d.cells = [d] := by cases d <;> first | rfl | simp [D.one] at h
theorem U.cells_one {u : U} (h : u.one = true) : u.cells = [u] := by
  cases u with
  | dat d => cases d <;> first | rfl | simp [U.one, D.one] at h
  | agg cs => simp [U.one] at h
  | _ => rfl
structure Info where
  gen : Nat
  blk : Nat
  size : Nat
  esz : Nat
abbrev Lay := Nat → Option Info
def LLe (L L' : Lay) : Prop := ∀ o i, L o = some i → ∃ i', L' o = some i' ∧ (i' = i ∨ i.gen < i'.gen)
theorem LLe.refl (L : Lay) : LLe L L := fun _ i h => ⟨i, h, .inl rfl⟩
theorem LLe.trans {A B C : Lay} (h : LLe A B) (h' : LLe B C) : LLe A C := fun o i e => by
  obtain ⟨j, hj, r⟩ := h o i e
  obtain ⟨k, hk, r'⟩ := h' o j hj
  refine ⟨k, hk, ?_⟩
  rcases r with rfl | r
  · exact r'
  · rcases r' with rfl | r'
    · exact .inr r
    · exact .inr (Nat.lt_trans r r')
theorem mapM_some {α β : Type} {f : α → Option β} : ∀ {l : List α} {r : List β}, l.mapM f = some r → r.length = l.length ∧ ∀ (i : Nat) x, l[i]? = some x → ∃ y, r[i]? = some y ∧ f x = some y := by
  intro l
  induction l with
  | nil =>
    intro r h
    simp at h
    subst h
    exact ⟨rfl, fun i x h => by simp at h⟩
  | cons a l ih =>
    intro r h
    rw [List.mapM_cons] at h
    cases ha : f a with
    | none => simp [ha] at h
    | some b =>
      cases hl : l.mapM f with
      | none => simp [ha, hl] at h
      | some r' =>
        simp [ha, hl] at h
        subst h
        obtain ⟨h1, h2⟩ := ih hl
        refine ⟨by simp [h1], fun i x hx => ?_⟩
        cases i with
        | zero => simp at hx; subst hx; exact ⟨b, rfl, ha⟩
        | succ i => simp at hx; obtain ⟨y, hy, hf⟩ := h2 i x hx; exact ⟨y, by simpa using hy, hf⟩
theorem mapM_back {α β : Type} {f : α → Option β} {l : List α} {r : List β} (h : l.mapM f = some r) {i : Nat} {y : β} (hy : r[i]? = some y) : ∃ x, l[i]? = some x ∧ f x = some y := by
  obtain ⟨hl, hf⟩ := mapM_some h
  have hlt : i < l.length := by rw [← hl]; exact (List.getElem?_eq_some_iff.1 hy).1
  obtain ⟨y', hy', e⟩ := hf i l[i] (List.getElem?_eq_getElem hlt)
  rw [hy] at hy'
  obtain rfl := Option.some.inj hy'
  exact ⟨l[i], List.getElem?_eq_getElem hlt, e⟩
theorem cells_oneCell {v : Value} (h : v.oneCell' = true) : v.cells = #[v] := by cases v <;> first | rfl | simp [Value.oneCell'] at h
theorem cells_all {u : U} (h : u.cells.all U.one = true) : (u ≠ .undef ∧ u ≠ .junk) ∧ ∀ l, u ≠ .tup l := by
  refine ⟨⟨fun e => ?_, fun e => ?_⟩, fun l e => ?_⟩
  · subst e; simp [U.cells, U.one] at h
  · subst e; simp [U.cells, U.one] at h
  · subst e; simp [U.cells, U.one] at h
theorem pureSem_run {α : Type} (P : Program) : ∀ (s : Sem α) (x : α), pureSem P s = some x → ∀ w, s.run P w = .ok x w := by
  intro s
  induction s with
  | pure a => intro x h w; simp [pureSem] at h; subst h; rfl
  | program k ih => intro x h w; simp only [pureSem] at h; simp only [Sem.run]; exact ih P x h w
  | mark m k ih => intro x h w; simp only [pureSem] at h; simp only [Sem.run]; exact ih x h w
  | _ => intro x h; simp [pureSem] at h
def RowAt (w : World) (b : Nat) (arr : Array Value) (ty : TypeId) : Prop := ∃ fr : Nat × Nat, (fr = (0, 0) ∨ arr.size ≤ fr.1) ∧ w.heap[b]? = some (.cells arr ty fr)
theorem RowAt.new {w : World} {b : Nat} {arr : Array Value} {ty : TypeId} (h : w.heap[b]? = some (.cells arr ty (0, 0))) : RowAt w b arr ty := ⟨(0, 0), .inl rfl, h⟩
theorem RowAt.lt {w : World} {b : Nat} {arr : Array Value} {ty : TypeId} (h : RowAt w b arr ty) : b < w.heap.size := by
  obtain ⟨fr, _, hh⟩ := h
  exact (Array.getElem?_eq_some_iff.1 hh).1
theorem RowAt.cell {w : World} {b : Nat} {arr : Array Value} {ty : TypeId} (h : RowAt w b arr ty) (off : Nat) : w.cell? ⟨b, off, none⟩ = arr[off]? := by
  obtain ⟨fr, _, hh⟩ := h
  simp [World.cell?, hh]
theorem RowAt.same {w w' : World} {b : Nat} {arr : Array Value} {ty : TypeId} (h : RowAt w b arr ty) (e : w'.heap[b]? = w.heap[b]?) : RowAt w' b arr ty := by
  obtain ⟨fr, hf, hh⟩ := h
  exact ⟨fr, hf, e.trans hh⟩
theorem RowAt.inj {w : World} {b : Nat} {arr arr' : Array Value} {ty ty' : TypeId} (h : RowAt w b arr ty) (h' : RowAt w b arr' ty') : arr = arr' := by
  obtain ⟨fr, _, hh⟩ := h
  obtain ⟨fr', _, hh'⟩ := h'
  rw [hh] at hh'
  injection Option.some.inj hh'
theorem RowAt.free {w : World} {b : Nat} {arr : Array Value} {ty : TypeId} (h : RowAt w b arr ty) {off : Nat} (ho : off < arr.size) : w.frozen? ⟨b, off, none⟩ = false := by
  obtain ⟨fr, hf, hh⟩ := h
  obtain ⟨lo, hi⟩ := fr
  simp only [World.frozen?, hh]
  rcases hf with hf | hf
  · simp at hf; obtain ⟨rfl, rfl⟩ := hf; simp
  · simp only at hf
    have : ¬ lo ≤ off := by omega
    simp [this]
def mapArr (es : Array MapEntry) : Array Value := (es.toList.flatMap fun e => [e.key, e.val]).toArray
def ObjAt (w : World) (b : Nat) (arr : Array Value) (ob : Obj) : Prop :=
  (0 < ob.esz ∧ RowAt w b arr ob.ty) ∨ (ob.esz = 0 ∧ ob.cells.length = arr.size ∧ ∃ es clk, w.heap[b]? = some (.map es clk) ∧ arr = mapArr es)
theorem ObjAt.row {w : World} {b : Nat} {arr : Array Value} {ob : Obj} (h : ObjAt w b arr ob) (he : 0 < ob.esz) : RowAt w b arr ob.ty := by
  rcases h with ⟨_, h⟩ | ⟨h, _⟩
  · exact h
  · omega
theorem ObjAt.lt {w : World} {b : Nat} {arr : Array Value} {ob : Obj} (h : ObjAt w b arr ob) : b < w.heap.size := by
  rcases h with ⟨_, h⟩ | ⟨_, _, es, clk, h, _⟩
  · exact h.lt
  · exact (Array.getElem?_eq_some_iff.1 h).1
theorem ObjAt.same {w w' : World} {b : Nat} {arr : Array Value} {ob : Obj} (h : ObjAt w b arr ob) (e : w'.heap[b]? = w.heap[b]?) : ObjAt w' b arr ob := by
  rcases h with ⟨h0, h⟩ | ⟨h0, hc, es, clk, h, h1⟩
  · exact .inl ⟨h0, h.same e⟩
  · exact .inr ⟨h0, hc, es, clk, e.trans h, h1⟩
theorem ObjAt.inj {w : World} {b : Nat} {arr arr' : Array Value} {ob ob' : Obj} (h : ObjAt w b arr ob) (h' : ObjAt w b arr' ob') : arr = arr' := by
  rcases h with ⟨_, h⟩ | ⟨_, _, es, clk, h, h1⟩ <;> rcases h' with ⟨_, h'⟩ | ⟨_, _, es', clk', h', h1'⟩
  · exact h.inj h'
  · obtain ⟨fr, _, h⟩ := h; rw [h] at h'; cases h'
  · obtain ⟨fr, _, h'⟩ := h'; rw [h] at h'; cases h'
  · rw [h] at h'; cases h'; rw [h1, h1']
theorem ObjAt.like {w : World} {b : Nat} {arr : Array Value} {ob ob' : Obj} (h : ObjAt w b arr ob) (ht : ob'.ty = ob.ty) (he : ob'.esz = ob.esz) (hc : ob'.cells.length = ob.cells.length) : ObjAt w b arr ob' := by
  rcases h with ⟨h0, h⟩ | ⟨h0, h1, r⟩
  · exact .inl ⟨by rw [he]; exact h0, by rw [ht]; exact h⟩
  · exact .inr ⟨by rw [he]; exact h0, by rw [hc]; exact h1, r⟩
class Sig where
  σ : Nat → D
variable [Sig]
inductive Rep (F : Mem) : D → Value → Prop
  | int (k : IntKind) (n : Int) : Rep F (.int k n) (.int k n)
  | bool (b : Bool) : Rep F (.bool b) (.bool b)
  | str (s : ByteArray) : Rep F (.str s) (.string s)
  | nil : Rep F .nil (.slice none 0 0)
  | lst (l : List D) (a : Addr) (c sz : Nat) (val : Nat → Nat → Value) (hc : l.length ≤ c) (hsz : ∀ x ∈ l, x.cells.length = sz)
      (ho : ∀ (i : Nat) (x : D) (j : Nat) (y : D), l[i]? = some x → x.cells[j]? = some y → y.one = true)
      (hF : ∀ (i : Nat) (x : D) (j : Nat) (y : D), l[i]? = some x → x.cells[j]? = some y → F (a.add (i * sz + j)) = some (val i j))
      (hR : ∀ (i : Nat) (x : D) (j : Nat) (y : D), l[i]? = some x → x.cells[j]? = some y → Rep F y (val i j)) : Rep F (.lst l) (.slice (some a) l.length c)
  | agg (cs : List D) (vs : List Value) (hl : vs.length = cs.length) (ho : ∀ (i : Nat) (y : D), cs[i]? = some y → y.one = true)
      (hR : ∀ (i : Nat) (y : D) (v : Value), cs[i]? = some y → vs[i]? = some v → Rep F y v) : Rep F (.agg cs) (.agg vs.toArray)
  | fp (cs : List D) (a : Addr) (val : Nat → Value) (hs : a.spot = none) (ho : ∀ (i : Nat) (y : D), cs[i]? = some y → y.one = true)
      (hF : ∀ (i : Nat) (y : D), cs[i]? = some y → F (a.add i) = some (val i)) (hR : ∀ (i : Nat) (y : D), cs[i]? = some y → Rep F y (val i)) : Rep F (.fp cs) (.pointer (some a))
  | fn (f : Nat) (caps : List D) (vs : List Value) (hl : vs.length = caps.length) (hR : ∀ (i : Nat) (y : D) (v : Value), caps[i]? = some y → vs[i]? = some v → Rep F y v) :
      Rep F (.fn f caps) (.func (.func f) #[] vs.toArray)
  | nul0 : Rep F (.nul 0) (.pointer none)
  | nul1 : Rep F (.nul 1) (.map none)
  | nul2 : Rep F (.nul 2) .nilFunc
  | nul3 : Rep F (.nul 3) .nilIface
  | sym (i : Nat) (v : Value) (ho : (Sig.σ i).one = true) (h : Rep F (Sig.σ i) v) : Rep F (.sym i) v
theorem Rep.mono {F F' : Mem} (hF : MLe F F') {d : D} {v : Value} (h : Rep F d v) : Rep F' d v := by
  induction h with
  | int k n => exact .int k n
  | bool b => exact .bool b
  | str s => exact .str s
  | nil => exact .nil
  | lst l a c sz val hc hsz ho h1 h2 ih => exact .lst l a c sz val hc hsz ho (fun i x j y hx hy => hF _ _ (h1 i x j y hx hy)) ih
  | agg cs vs hl ho h ih => exact .agg cs vs hl ho ih
  | fp cs a val hs ho h1 h2 ih => exact .fp cs a val hs ho (fun i y hy => hF _ _ (h1 i y hy)) ih
  | fn f caps vs hl h ih => exact .fn f caps vs hl ih
  | nul0 => exact .nul0
  | nul1 => exact .nul1
  | nul2 => exact .nul2
  | nul3 => exact .nul3
  | sym i v ho h ih => exact .sym i v ho ih
theorem Rep.oneCell {F : Mem} {d : D} {v : Value} (h : Rep F d v) (ho : d.one = true) : v.oneCell' = true := by
  induction h with
  | sym i v hi h ih => exact ih hi
  | agg => simp [D.one] at ho
  | _ => rfl
inductive RepU (F : Mem) (L : Lay) : U → Value → Prop
  | dat (d : D) (v : Value) (h : Rep F d v) : RepU F L (.dat d) v
  | ptr (o p : Nat) (i : Info) (hL : L o = some i) : RepU F L (.ptr o i.gen p) (.pointer (some ⟨i.blk, p, none⟩))
  | ptrOld (o g p : Nat) (i : Info) (a : Addr) (hL : L o = some i) (hg : g < i.gen) : RepU F L (.ptr o g p) (.pointer (some a))
  | own (o off n c : Nat) (i : Info) (hL : L o = some i) (hn : n ≤ c) (hc : (off + c) * i.esz ≤ i.size) :
      RepU F L (.own o i.gen off n) (.slice (some ⟨i.blk, off * i.esz, none⟩) n c)
  | ownEnd (o off : Nat) (i : Info) (a : Addr) (hL : L o = some i) : RepU F L (.own o i.gen off 0) (.slice (some a) 0 0)
  | ownOld (o g off n : Nat) (i : Info) (a : Addr) (c : Nat) (hL : L o = some i) (hg : g < i.gen) : RepU F L (.own o g off n) (.slice (some a) n c)
  | agg (cs : List U) (vs : List Value) (hl : vs.length = cs.length) (ho : ∀ (i : Nat) (u : U), cs[i]? = some u → u.one = true)
      (hR : ∀ (i : Nat) (u : U) (v : Value), cs[i]? = some u → vs[i]? = some v → RepU F L u v) : RepU F L (.agg cs) (.agg vs.toArray)
  | tup (l : List U) (vs : List Value) (hl : vs.length = l.length) (hR : ∀ (i : Nat) (u : U) (v : Value), l[i]? = some u → vs[i]? = some v → RepU F L u v) :
      RepU F L (.tup l) (.tuple vs.toArray)
  | fn (f : Nat) (caps : List U) (vs : List Value) (hl : vs.length = caps.length) (hR : ∀ (i : Nat) (u : U) (v : Value), caps[i]? = some u → vs[i]? = some v → RepU F L u v) :
      RepU F L (.fn f caps) (.func (.func f) #[] vs.toArray)
  | undef : RepU F L .undef Go.undef
  | junk (v : Value) : RepU F L .junk v
  | map (o : Nat) (i : Info) (hL : L o = some i) : RepU F L (.map o i.gen) (.map (some i.blk))
  | mapOld (o g : Nat) (i : Info) (r : Nat) (hL : L o = some i) (hg : g < i.gen) : RepU F L (.map o g) (.map (some r))
theorem RepU.mono {F F' : Mem} {L L' : Lay} (hF : MLe F F') (hL : LLe L L') {u : U} {v : Value} (h : RepU F L u v) : RepU F' L' u v := by
  induction h with
  | dat d v h => exact .dat d v (h.mono hF)
  | ptr o p i h =>
    obtain ⟨j, hj, rfl | r⟩ := hL o i h
    · exact .ptr o p j hj
    · exact .ptrOld o _ p j _ hj r
  | ptrOld o g p i a h hg =>
    obtain ⟨j, hj, rfl | r⟩ := hL o i h
    · exact .ptrOld o g p j a hj hg
    · exact .ptrOld o g p j a hj (Nat.lt_trans hg r)
  | own o off n c i h hn hc =>
    obtain ⟨j, hj, rfl | r⟩ := hL o i h
    · exact .own o off n c j hj hn hc
    · exact .ownOld o _ off n j _ c hj r
  | ownEnd o off i a h =>
    obtain ⟨j, hj, rfl | r⟩ := hL o i h
    · exact .ownEnd o off j a hj
    · exact .ownOld o _ off 0 j a 0 hj r
  | ownOld o g off n i a c h hg =>
    obtain ⟨j, hj, rfl | r⟩ := hL o i h
    · exact .ownOld o g off n j a c hj hg
    · exact .ownOld o g off n j a c hj (Nat.lt_trans hg r)
  | agg cs vs hl ho h ih => exact .agg cs vs hl ho ih
  | tup l vs hl h ih => exact .tup l vs hl ih
  | fn f caps vs hl h ih => exact .fn f caps vs hl ih
  | undef => exact .undef
  | junk v => exact .junk v
  | map o i h =>
    obtain ⟨j, hj, rfl | r⟩ := hL o i h
    · exact .map o j hj
    · exact .mapOld o _ j _ hj r
  | mapOld o g i x h hg =>
    obtain ⟨j, hj, rfl | r⟩ := hL o i h
    · exact .mapOld o g j x hj hg
    · exact .mapOld o g j x hj (Nat.lt_trans hg r)
theorem RepU.oneCell {F : Mem} {L : Lay} {u : U} {v : Value} (h : RepU F L u v) (ho : u.one = true) : v.oneCell' = true := by
  cases h with
  | dat d v h => exact h.oneCell ho
  | agg => simp [U.one] at ho
  | tup => simp [U.one] at ho
  | undef => simp [U.one] at ho
  | junk v => simp [U.one] at ho
  | _ => rfl
theorem RepU.cellsR {F : Mem} {L : Lay} {u : U} {v : Value} (h : RepU F L u v) (hu : u.one = true ∨ (∃ cs, u = .agg cs) ∨ ∃ cs, u = .dat (.agg cs)) :
    v.cells.size = u.cells.length ∧ ∀ (j : Nat) y, u.cells[j]? = some y → y.one = true ∧ ∃ x, v.cells[j]? = some x ∧ RepU F L y x := by
  rcases hu with hu | ⟨cs, rfl⟩ | ⟨cs, rfl⟩
  · rw [U.cells_one hu, cells_oneCell (h.oneCell hu)]
    refine ⟨rfl, fun j y hj => ?_⟩
    cases j with
    | zero => simp at hj; subst hj; exact ⟨hu, v, rfl, h⟩
    | succ j => simp at hj
  · cases h with
    | agg _ vs hl ho hR =>
      refine ⟨by simp [Value.cells, U.cells, hl], fun j y hj => ?_⟩
      have hj' : cs[j]? = some y := hj
      have hlt : j < vs.length := by rw [hl]; exact (List.getElem?_eq_some_iff.1 hj').1
      exact ⟨ho j y hj', vs[j], by simp [Value.cells, hlt], hR j y _ hj' (List.getElem?_eq_getElem hlt)⟩
  · cases h with
    | dat _ _ h =>
      cases h with
      | agg _ vs hl ho hR =>
        refine ⟨by simp [Value.cells, U.cells, hl], fun j y hj => ?_⟩
        simp only [U.cells, List.getElem?_map] at hj
        cases hd : cs[j]? with
        | none => simp [hd] at hj
        | some d =>
          simp [hd] at hj
          subst hj
          have hlt : j < vs.length := by rw [hl]; exact (List.getElem?_eq_some_iff.1 hd).1
          exact ⟨ho j d hd, vs[j], by simp [Value.cells, hlt], .dat _ _ (hR j d _ hd (List.getElem?_eq_getElem hlt))⟩
theorem RepU.cells' {F : Mem} {L : Lay} {u : U} {v : Value} (h : RepU F L u v) (hn : u ≠ .undef ∧ u ≠ .junk) (ht : ∀ l, u ≠ .tup l) :
    v.cells.size = u.cells.length ∧ ∀ (j : Nat) y, u.cells[j]? = some y → y.one = true ∧ ∃ x, v.cells[j]? = some x ∧ RepU F L y x := by
  refine h.cellsR ?_
  cases u with
  | dat d => cases d <;> first | exact .inl rfl | exact .inr (.inr ⟨_, rfl⟩)
  | agg cs => exact .inr (.inl ⟨cs, rfl⟩)
  | tup l => exact absurd rfl (ht l)
  | undef => exact absurd rfl hn.1
  | junk => exact absurd rfl hn.2
  | _ => exact .inl rfl
structure SR (w : World) (F : Mem) (L : Lay) (b0 : Nat) (st : Nat → Option Obj) : Prop where
  mem : ∀ a v, F a = some v → w.cell? a = some v
  non : ∀ o, st o = none → L o = none
  obj : ∀ o ob, st o = some ob → ∃ (i : Info) (arr : Array Value), L o = some i ∧ i.gen = ob.gen ∧ i.esz = ob.esz ∧ (0 < ob.esz → i.size = arr.size) ∧ b0 ≤ i.blk ∧
    ObjAt w i.blk arr ob ∧ ob.cells.length ≤ arr.size ∧
    (∀ (j : Nat) u, ob.cells[j]? = some u → (0 < ob.esz → u.one = true) ∧ ∃ v, arr[j]? = some v ∧ RepU F L u v) ∧
    (∀ off, (ob.snap = true → ob.cells.length ≤ off) → F ⟨i.blk, off, none⟩ = none)
  inj : ∀ o o' i i', L o = some i → L o' = some i' → i.blk = i'.blk → o = o'
structure Evo (w : World) (F : Mem) (L : Lay) (w' : World) (F' : Mem) (L' : Lay) : Prop where
  size : w.heap.size ≤ w'.heap.size
  os : w'.os = w.os
  tape : w'.tape = w.tape
  output : w'.output = w.output
  memLe : MLe F F'
  layLe : LLe L L'
  frame : ∀ k, k < w.heap.size → (∀ o i, L o = some i → i.blk ≠ k) → w'.heap[k]? = w.heap[k]?
  newMem : ∀ a, F' a ≠ F a → w.heap.size ≤ a.block ∨ ∃ o i, L o = some i ∧ i.blk = a.block
  newObj : ∀ o i', L' o = some i' → (∃ o' i, L o' = some i ∧ i.blk = i'.blk) ∨ w.heap.size ≤ i'.blk
theorem Evo.refl (w : World) (F : Mem) (L : Lay) : Evo w F L w F L :=
  have _s : Sig := inferInstance; ⟨Nat.le_refl _, rfl, rfl, rfl, .refl _, .refl _, fun _ _ _ => rfl, fun _ h => absurd rfl h, fun o i h => .inl ⟨o, i, h, rfl⟩⟩
theorem Evo.trans {w1 w2 w3 : World} {F1 F2 F3 : Mem} {L1 L2 L3 : Lay} (h : Evo w1 F1 L1 w2 F2 L2) (h' : Evo w2 F2 L2 w3 F3 L3) : Evo w1 F1 L1 w3 F3 L3 where
  size := have _s : Sig := inferInstance; Nat.le_trans h.size h'.size
  os := h'.os.trans h.os
  tape := h'.tape.trans h.tape
  output := h'.output.trans h.output
  memLe := h.memLe.trans h'.memLe
  layLe := h.layLe.trans h'.layLe
  frame := fun k hk hn => by
    rw [h'.frame k (Nat.lt_of_lt_of_le hk h.size) (fun o i hi e => ?_), h.frame k hk hn]
    rcases h.newObj o i hi with ⟨o', j, hj, e'⟩ | hb
    · exact hn o' j hj (e'.trans e)
    · omega
  newMem := fun a ha => by
    by_cases e : F2 a = F1 a
    · rcases h'.newMem a (by rw [e]; exact ha) with hb | ⟨o, i, hi, e'⟩
      · exact .inl (Nat.le_trans h.size hb)
      · rcases h.newObj o i hi with ⟨o', j, hj, e''⟩ | hb
        · exact .inr ⟨o', j, hj, e''.trans e'⟩
        · exact .inl (by omega)
    · exact h.newMem a e
  newObj := fun o i hi => by
    rcases h'.newObj o i hi with ⟨o', j, hj, e⟩ | hb
    · rcases h.newObj o' j hj with ⟨o'', l, hl, e'⟩ | hb
      · exact .inl ⟨o'', l, hl, e'.trans e⟩
      · exact .inr (by omega)
    · exact .inr (Nat.le_trans h.size hb)
def TR (F : Mem) (L : Lay) (tm : List U) (tmps : Array Value) : Prop :=
  tmps.size = tm.length ∧ ∀ (t : Nat) u, tm[t]? = some u → ∃ v, tmps[t]? = some v ∧ RepU F L u v
theorem TR.mono {F F' : Mem} {L L' : Lay} (hF : MLe F F') (hL : LLe L L') {tm : List U} {tmps : Array Value} (h : TR F L tm tmps) : TR F' L' tm tmps :=
  ⟨h.1, fun t u hu => let ⟨v, hv, hr⟩ := h.2 t u hu; ⟨v, hv, hr.mono hF hL⟩⟩
theorem TR.put {F : Mem} {L : Lay} {tm : List U} {a : Act} (h : TR F L tm a.tmps) (dst : Option Tmp) {u : U} {v : Value} (hr : RepU F L u v) : TR F L (V.put tm dst u) (a.put dst v).tmps := by
  cases dst with
  | none => exact h
  | some t =>
    refine ⟨by simp [V.put, Act.put, h.1], fun t' u' hu => ?_⟩
    simp only [V.put] at hu
    simp only [Act.put]
    by_cases e : t = t'
    · subst e
      rw [List.getElem?_set] at hu
      have hlt : t < tm.length := by
        by_cases hl : t < tm.length
        · exact hl
        · simp [hl] at hu
      simp [hlt] at hu
      subst hu
      exact ⟨v, by simp [Array.getElem?_setIfInBounds, h.1, hlt], hr⟩
    · rw [List.getElem?_set_ne e] at hu
      obtain ⟨x, hx, hrx⟩ := h.2 t' u' hu
      exact ⟨x, by rw [Array.getElem?_setIfInBounds_ne e]; exact hx, hrx⟩
theorem const1_rep {F : Mem} {v : Value} {d : D} (h : const1 v = some d) : Rep F d v ∧ d.one = true := by
  unfold const1 at h
  split at h <;> first
    | (have := Option.some.inj h; subst this; constructor <;> first | constructor | rfl)
    | (split at h
       · rename_i a b hab
         have := Option.some.inj h
         subst this
         simp only [Bool.and_eq_true, Array.isEmpty_iff] at hab
         obtain ⟨rfl, rfl⟩ := hab
         exact ⟨.fn _ [] [] rfl (fun i y v h => by simp at h), rfl⟩
       · simp at h)
    | simp at h
theorem constD_rep {F : Mem} {v : Value} {d : D} (h : constD v = some d) : Rep F d v := by
  unfold constD at h
  split at h
  · rename_i cs
    obtain ⟨ds, hds, rfl⟩ := Option.map_eq_some_iff.1 h
    have e : cs = cs.toList.toArray := by simp
    rw [e]
    obtain ⟨hl, _⟩ := mapM_some hds
    refine .agg ds cs.toList (by omega) (fun i y hy => ?_) (fun i y v hy hv => ?_)
    · obtain ⟨x, _, hx⟩ := mapM_back hds hy
      exact (const1_rep (F := F) hx).2
    · obtain ⟨x, hx, hf⟩ := mapM_back hds hy
      rw [hv] at hx
      obtain rfl := Option.some.inj hx
      exact (const1_rep hf).1
  · exact (const1_rep h).1
theorem val1_rep {F : Mem} {d : D} {v v' : Value} (h : val1 d = some v') (hr : Rep F d v) : v = v' := by
  cases hr <;> simp [val1] at h <;> first | exact h | skip
  rename_i f caps vs hl hR
  cases caps with
  | nil =>
    have : vs = [] := List.eq_nil_of_length_eq_zero hl
    subst this
    simp [val1] at h
    exact h
  | cons => simp [val1] at h
theorem valD_rep {F : Mem} {d : D} {v v' : Value} (h : valD d = some v') (hr : Rep F d v) : v = v' := by
  unfold valD at h
  split at h
  · rename_i cs
    obtain ⟨vs', hvs, rfl⟩ := Option.map_eq_some_iff.1 h
    cases hr with
    | agg _ vs hl ho hR =>
      obtain ⟨hl', hf⟩ := mapM_some hvs
      congr 1
      congr 1
      refine List.ext_getElem? fun i => ?_
      by_cases hi : i < cs.length
      · obtain ⟨y, hy, e⟩ := hf i cs[i] (List.getElem?_eq_getElem hi)
        have hlt : i < vs.length := by omega
        have := val1_rep e (hR i _ vs[i] (List.getElem?_eq_getElem hi) (List.getElem?_eq_getElem hlt))
        rw [hy, List.getElem?_eq_getElem hlt, this]
      · rw [List.getElem?_eq_none (by omega), List.getElem?_eq_none (by omega)]
  · exact val1_rep h hr
theorem valU_rep {F : Mem} {L : Lay} {u : U} {v v' : Value} (h : valU u = some v') (hr : RepU F L u v) : v = v' := by
  cases u <;> simp [valU] at h
  cases hr with
  | dat _ _ hr => exact valD_rep h hr
theorem eval_rep {F : Mem} {L : Lay} {tm : List U} {a : Act} (hT : TR F L tm a.tmps) {x : Operand} {u : U} (h : evalU tm x = some u) : RepU F L u (a.eval x) := by
  cases x with
  | tmp t =>
    obtain ⟨v, hv, hr⟩ := hT.2 t u h
    have : a.eval (.tmp t) = v := by simp [Act.eval, Array.getD_eq_getD_getElem?, hv]
    rw [this]
    exact hr
  | const v =>
    obtain ⟨d, hd, rfl⟩ := Option.map_eq_some_iff.1 h
    exact .dat _ _ (constD_rep hd)
  | global g => simp [evalU] at h
  | func f =>
    obtain rfl := Option.some.inj h
    exact .dat _ _ (.fn f [] [] rfl (fun i y v h => by simp at h))
end Go.Proofs.Ytjofhegodknmaaa.V
