/- V, maps: a map of the call's own is looked up, written and made. -/
import Derived.Test.YtjofhegodknmaaaV7
set_option linter.unusedSimpArgs false
set_option linter.unusedVariables false
namespace Go.Proofs.Ytjofhegodknmaaa.V
open Go
theorem pureSem_bind {α β : Type} (P : Program) (s : Sem α) (f : α → Sem β) : pureSem P (s >>= f) = (pureSem P s).bind fun a => pureSem P (f a) := by
  show pureSem P (s.bind f) = _
  induction s with
  | pure a => rfl
  | program k ih => simp only [Sem.bind, pureSem]; exact ih P
  | mark m k ih => simp only [Sem.bind, pureSem]; exact ih
  | _ => rfl
@[simp] theorem pureSem_pure {α : Type} (P : Program) (a : α) : pureSem P (pure a : Sem α) = some a := rfl
theorem pureSem_underlying (P : Program) (t : TypeId) {d : TypeDesc} (h : P.underlying t = some d) : pureSem P (underlying t) = some d := by
  unfold underlying
  simp only [pureSem_bind, program, pureSem, Option.bind_some]
  rw [h]
  rfl
theorem beqT_iff : ∀ {a b : List UInt8}, beqT a b = true ↔ a = b
  | [], [] => by simp [beqT]
  | [], _ :: _ => by simp [beqT]
  | _ :: _, [] => by simp [beqT]
  | a :: r, b :: q => by
    simp only [beqT, Bool.and_eq_true, List.cons.injEq, beqT_iff (a := r) (b := q), Nat.beq_eq, UInt8.toNat_inj]
theorem beqS_eq (s y : ByteArray) : (s == y) = (s.data == y.data) := rfl
theorem beqS_refl (s : ByteArray) : (s == s) = true := by rw [beqS_eq]; exact beq_self_eq_true _
def Same (es : List MapEntry) (i : Nat) (r r' : Option (Nat × Value)) : Prop :=
  (r = none ∧ r' = none) ∨ ∃ j e v', r' = some (j, v') ∧ i ≤ j ∧ es[j - i]? = some e ∧ r = some (j, e.val)
theorem Same.shift {es : List MapEntry} {e0 : MapEntry} {i : Nat} {r r' : Option (Nat × Value)} (h : Same es (i + 1) r r') : Same (e0 :: es) i r r' := by
  rcases h with h | ⟨j, e, v', h1, h2, h3, h4⟩
  · exact .inl h
  · refine .inr ⟨j, e, v', h1, by omega, ?_, h4⟩
    have : j - i = (j - (i + 1)) + 1 := by omega
    rw [this, List.getElem?_cons_succ]
    exact h3
theorem findNow_keys (kind : TypeDesc) (k : Value) : ∀ (es es' : List MapEntry) (i : Nat), es.map (·.key) = es'.map (·.key) →
    (Instr.findNow kind k es' i = none → Instr.findNow kind k es i = none) ∧ ∀ r', Instr.findNow kind k es' i = some r' → ∃ r, Instr.findNow kind k es i = some r ∧ Same es i r r'
  | [], [], i, _ => ⟨fun h => h, fun r' h => ⟨r', h, by simp [Instr.findNow] at h; subst h; exact .inl ⟨rfl, rfl⟩⟩⟩
  | [], _ :: _, i, h => by simp at h
  | _ :: _, [], i, h => by simp at h
  | e :: es, e' :: es', i, h => by
    simp only [List.map_cons, List.cons.injEq] at h
    obtain ⟨ih1, ih2⟩ := findNow_keys kind k es es' (i + 1) h.2
    simp only [Instr.findNow, h.1]
    cases hs : Instr.sameNow kind k e'.key with
    | none => exact ⟨fun _ => rfl, fun r' h => by simp at h⟩
    | some b =>
      cases b with
      | true =>
        refine ⟨fun h => by simp at h, fun r' h => ?_⟩
        simp only [Option.some.injEq] at h
        subst h
        exact ⟨_, rfl, .inr ⟨i, e, e'.val, rfl, Nat.le_refl _, by simp, rfl⟩⟩
      | false => exact ⟨ih1, fun r' h => let ⟨r, h1, h2⟩ := ih2 r' h; ⟨r, h1, h2.shift⟩⟩
theorem findAsking_keys (P : Program) (kt : TypeId) (k : Value) : ∀ (es es' : List MapEntry) (i : Nat), es.map (·.key) = es'.map (·.key) →
    ∀ r', pureSem P (Instr.findAsking kt k es' i) = some r' → ∃ r, pureSem P (Instr.findAsking kt k es i) = some r ∧ Same es i r r'
  | [], [], i, _ => fun r' h => ⟨r', h, by simp [Instr.findAsking] at h; subst h; exact .inl ⟨rfl, rfl⟩⟩
  | [], _ :: _, i, h => by simp at h
  | _ :: _, [], i, h => by simp at h
  | e :: es, e' :: es', i, h => by
    simp only [List.map_cons, List.cons.injEq] at h
    have ih := findAsking_keys P kt k es es' (i + 1) h.2
    intro r' hr
    simp only [Instr.findAsking, h.1, pureSem_bind] at hr ⊢
    cases hb : pureSem P (Op.equal kt k e'.key) with
    | none => rw [hb] at hr; simp at hr
    | some b =>
      rw [hb] at hr
      cases b with
      | true =>
        simp at hr
        subst hr
        exact ⟨some (i, e.val), by simp, .inr ⟨i, e, e'.val, rfl, Nat.le_refl _, by simp, rfl⟩⟩
      | false =>
        simp at hr
        obtain ⟨r, h1, h2⟩ := ih r' hr
        exact ⟨r, by simp [h1], h2.shift⟩
theorem findKey_keys (P : Program) (kt : TypeId) (k : Value) (es es' : List MapEntry) (h : es.map (·.key) = es'.map (·.key)) {r' : Option (Nat × Value)} (hr : pureSem P (Instr.findKey kt k es') = some r') :
    ∃ r, pureSem P (Instr.findKey kt k es) = some r ∧ Same es 0 r r' := by
  unfold Instr.findKey at hr ⊢
  rw [pureSem_bind] at hr ⊢
  cases hd : pureSem P (underlying kt) with
  | none => rw [hd] at hr; simp at hr
  | some d =>
    rw [hd] at hr
    simp only [Option.bind_some] at hr ⊢
    obtain ⟨h1, h2⟩ := findNow_keys d k es es' 0 h
    cases hn : Instr.findNow d k es' 0 with
    | none =>
      rw [hn] at hr
      rw [h1 hn]
      exact findAsking_keys P kt k es es' 0 h r' hr
    | some q =>
      rw [hn] at hr
      simp at hr
      subst hr
      obtain ⟨r, h3, h4⟩ := h2 _ hn
      rw [h3]
      exact ⟨r, rfl, h4⟩
theorem runesFrom_int (s : ByteArray) : ∀ (bound i : Nat) (acc : Array Value), (∀ v ∈ acc.toList, ∃ n, v = .int .i32 n) → ∀ v ∈ (Conv.runesFrom s bound i acc).toList, ∃ n, v = .int .i32 n
  | 0, i, acc, h => h
  | bound + 1, i, acc, h => by
    unfold Conv.runesFrom
    split
    · refine runesFrom_int s bound _ _ fun v hv => ?_
      rw [Array.toList_push] at hv
      rcases List.mem_append.1 hv with hv | hv
      · exact h v hv
      · simp at hv; exact ⟨_, hv⟩
    · exact h
theorem runesOfD_some : ∀ {l : List D} {ns : List Int}, runesOfD l = some ns → l = ns.map (D.int .i32)
  | [], ns, h => by simp [runesOfD] at h; subst h; rfl
  | d :: r, ns, h => by
    cases d with
    | int k n =>
      cases k <;> first | (simp [runesOfD] at h; done) | skip
      simp only [runesOfD] at h
      obtain ⟨ns', h1, rfl⟩ := Option.map_eq_some_iff.1 h
      rw [runesOfD_some h1]
      rfl
    | _ => simp [runesOfD] at h
variable [Sig]
inductive KV (F : Mem) (L : Lay) : List U → List MapEntry → Prop
  | nil : KV F L [] []
  | cons (k x : U) (r : List U) (e : MapEntry) (es : List MapEntry) (hk : RepU F L k e.key) (hx : RepU F L x e.val) (h : KV F L r es) : KV F L (k :: x :: r) (e :: es)
def flat2 (es : List MapEntry) : List Value := es.flatMap fun e => [e.key, e.val]
theorem KV.of {F : Mem} {L : Lay} : ∀ (es : List MapEntry) (cells : List U), cells.length = (flat2 es).length → (∀ (j : Nat) u, cells[j]? = some u → ∃ v, (flat2 es)[j]? = some v ∧ RepU F L u v) → KV F L cells es
  | [], cells, hl, h => by
    have : cells = [] := List.eq_nil_of_length_eq_zero (by simpa [flat2] using hl)
    subst this
    exact .nil
  | e :: es, cells, hl, h => by
    have hf : flat2 (e :: es) = e.key :: e.val :: flat2 es := rfl
    rw [hf] at hl h
    match cells, hl, h with
    | [], hl, h => simp at hl
    | [k], hl, h => simp at hl
    | k :: x :: r, hl, h =>
      refine .cons k x r e es ?_ ?_ (KV.of es r (by simpa using hl) fun j u hu => ?_)
      · obtain ⟨v, hv, hr⟩ := h 0 k rfl; simp at hv; subst hv; exact hr
      · obtain ⟨v, hv, hr⟩ := h 1 x rfl; simp at hv; subst hv; exact hr
      · obtain ⟨v, hv, hr⟩ := h (j + 2) u (by simpa using hu); exact ⟨v, by simpa using hv, hr⟩
theorem KV.len {F : Mem} {L : Lay} {cells : List U} {es : List MapEntry} (h : KV F L cells es) : cells.length = 2 * es.length ∧ cells.length = (flat2 es).length := by
  induction h with
  | nil => exact ⟨rfl, rfl⟩
  | cons k x r e es hk hx h ih =>
    obtain ⟨h1, h2⟩ := ih
    have hf : flat2 (e :: es) = e.key :: e.val :: flat2 es := rfl
    rw [hf]
    simp only [List.length_cons]
    omega
theorem KV.at {F : Mem} {L : Lay} {cells : List U} {es : List MapEntry} (h : KV F L cells es) : ∀ (j : Nat) u, cells[j]? = some u → ∃ v, (flat2 es)[j]? = some v ∧ RepU F L u v := by
  induction h with
  | nil => intro j u h; simp at h
  | cons k x r e es hk hx h ih =>
    intro j u hu
    have hf : flat2 (e :: es) = e.key :: e.val :: flat2 es := rfl
    rw [hf]
    match j with
    | 0 => simp at hu; subst hu; exact ⟨_, rfl, hk⟩
    | 1 => simp at hu; subst hu; exact ⟨_, rfl, hx⟩
    | j + 2 => simp at hu; obtain ⟨v, hv, hr⟩ := ih j u hu; exact ⟨v, by simpa using hv, hr⟩
theorem KV.get {F : Mem} {L : Lay} {cells : List U} {es : List MapEntry} (h : KV F L cells es) : ∀ (j : Nat) e, es[j]? = some e → ∃ k x, cells[2 * j]? = some k ∧ cells[2 * j + 1]? = some x ∧ RepU F L k e.key ∧ RepU F L x e.val := by
  induction h with
  | nil => intro j e h; simp at h
  | cons k x r e es hk hx h ih =>
    intro j e' he
    cases j with
    | zero => simp at he; subst he; exact ⟨k, x, rfl, rfl, hk, hx⟩
    | succ j =>
      simp at he
      obtain ⟨k', x', h1, h2, h3, h4⟩ := ih j e' he
      refine ⟨k', x', ?_, ?_, h3, h4⟩
      · rw [show 2 * (j + 1) = 2 * j + 1 + 1 by omega]; simpa using h1
      · rw [show 2 * (j + 1) + 1 = 2 * j + 1 + 1 + 1 by omega]; simpa using h2
theorem KV.push {F : Mem} {L : Lay} {cells : List U} {es : List MapEntry} (h : KV F L cells es) {k x : U} {e : MapEntry} (hk : RepU F L k e.key) (hx : RepU F L x e.val) : KV F L (cells ++ [k, x]) (es ++ [e]) := by
  induction h with
  | nil => exact .cons k x [] e [] hk hx .nil
  | cons k' x' r e' es hk' hx' h ih => exact .cons _ _ _ _ _ hk' hx' ih
theorem KV.set {F : Mem} {L : Lay} {cells : List U} {es : List MapEntry} (h : KV F L cells es) : ∀ (j : Nat) {k x : U} {f : MapEntry → MapEntry}, (∀ e, RepU F L k (f e).key) → (∀ e, RepU F L x (f e).val) → KV F L ((cells.set (2 * j) k).set (2 * j + 1) x) (es.modify j f) := by
  induction h with
  | nil => intro j k x f _ _; simp; exact .nil
  | cons k' x' r e' es hk' hx' h ih =>
    intro j k x f hk hx
    cases j with
    | zero => simp [List.modify_zero_cons]; exact .cons _ _ _ _ _ (hk _) (hx _) h
    | succ j =>
      rw [show 2 * (j + 1) = 2 * j + 1 + 1 by omega]
      simp only [List.set_cons_succ, List.modify_succ_cons]
      exact .cons _ _ _ _ _ hk' hx' (ih j hk hx)
section
variable {P : Program} {a : Act} {o : Oper} {w : World} {F : Mem} {L : Lay} {b0 : Nat} {g : Nat → Option Obj} {tm : List U}
theorem KV.evens {cells : List U} {es : List MapEntry} (h : KV F L cells es) : ∀ {ks : List Value}, (V.evens cells).mapM valU = some ks → es.map (·.key) = ks := by
  induction h with
  | nil => intro ks h; simp [V.evens] at h; subst h; rfl
  | cons k x r e es hk hx h ih =>
    intro ks hm
    simp only [V.evens, List.mapM_cons] at hm
    cases hv : valU k with
    | none => rw [hv] at hm; simp at hm
    | some v =>
      cases hr : (V.evens r).mapM valU with
      | none => rw [hv, hr] at hm; simp at hm
      | some ks' =>
        rw [hv, hr] at hm
        simp at hm
        subst hm
        rw [List.map_cons, ih hr, valU_rep hv hk]
theorem findS_ok {s : ByteArray} {cells : List U} {es : List MapEntry} (h : KV F L cells es) : ∀ {i : Nat} {r : Option Nat}, findS s.data.toList cells i = some r →
    ∃ q, Instr.findNow .string (.string s) es i = some q ∧ ((r = none ∧ q = none) ∨ ∃ j e, r = some j ∧ i ≤ j ∧ es[j - i]? = some e ∧ q = some (j, e.val)) := by
  induction h with
  | nil =>
    intro i r hr
    simp [findS] at hr
    subst hr
    exact ⟨none, rfl, .inl ⟨rfl, rfl⟩⟩
  | cons k x rest e es hk hx h ih =>
    intro i r hr
    unfold findS at hr
    split at hr
    · rename_i e0; simp at e0
    · rename_i i' y xx r' e0
      simp only [List.cons.injEq] at e0
      obtain ⟨rfl, rfl, rfl⟩ := e0
      cases hk with
      | dat _ _ hk =>
        have hke : e.key = .string y := by
          generalize e.key = z at hk
          cases hk
          rfl
        simp only [Instr.findNow, hke, Instr.sameNow]
        by_cases hb : beqT s.data.toList y.data.toList = true
        · rw [if_pos hb] at hr
          obtain rfl := Option.some.inj hr
          have : s = y := by
            have := beqT_iff.1 hb
            obtain ⟨⟨s⟩⟩ := s
            obtain ⟨⟨y⟩⟩ := y
            simp at this
            rw [this]
          subst this
          rw [beqS_refl]
          exact ⟨_, rfl, .inr ⟨_, e, rfl, Nat.le_refl _, by simp, rfl⟩⟩
        · rw [if_neg hb] at hr
          have hne : (s == y) = false := by
            rw [beqS_eq, beq_eq_false_iff_ne]
            intro h0
            exact hb (beqT_iff.2 (by rw [h0]))
          simp only [hne]
          obtain ⟨q, h1, h2⟩ := ih hr
          refine ⟨q, h1, ?_⟩
          rcases h2 with h2 | ⟨j, e', h3, h4, h5, h6⟩
          · exact .inl h2
          · refine .inr ⟨j, e', h3, by omega, ?_, h6⟩
            have e1 : ∀ m, m + 1 ≤ j → j - m = (j - (m + 1)) + 1 := fun m hm => by omega
            rw [e1 _ h4, List.getElem?_cons_succ]
            exact h5
    · simp at hr
theorem findU_ok {kt : TypeId} {k : Value} {cells : List U} {es : List MapEntry} (h : KV F L cells es) {r : Option Nat} (hr : findU P kt k cells = some r) :
    ∃ q, pureSem P (Instr.findKey kt k es) = some q ∧ ((r = none ∧ q = none) ∨ ∃ j e, r = some j ∧ es[j]? = some e ∧ q = some (j, e.val)) := by
  unfold findU at hr
  split at hr
  · rename_i s hd
    obtain ⟨q, h1, h2⟩ := findS_ok h hr
    refine ⟨q, ?_, ?_⟩
    · unfold Instr.findKey
      rw [pureSem_bind, pureSem_underlying P kt hd]
      simp [h1]
    · rcases h2 with h2 | ⟨j, e, h3, _, h5, h6⟩
      · exact .inl h2
      · exact .inr ⟨j, e, h3, by simpa using h5, h6⟩
  · unfold findK at hr
    split at hr
    · rename_i ks hks
      obtain ⟨r', hr', rfl⟩ := Option.map_eq_some_iff.1 hr
      have hk := h.evens hks
      obtain ⟨q, h1, h2⟩ := findKey_keys P kt _ es _ (by rw [hk, List.map_map]; simp [Function.comp_def]) hr'
      refine ⟨q, h1, ?_⟩
      rcases h2 with ⟨h2, h3⟩ | ⟨j, e, v', h2, _, h5, h3⟩
      · rw [h3]; exact .inl ⟨rfl, h2⟩
      · rw [h2]; exact .inr ⟨j, e, rfl, by simpa using h5, h3⟩
    · simp at hr
theorem keyOk_run {kt : TypeId} {k : Value} {empty : Bool} (hk : keyOk P kt k empty = true) : (Instr.checkKey empty 10000 kt k).run P w = .ok () w := by
  have _s : Sig := inferInstance
  have hp : pureSem P (Instr.checkKey empty 10000 kt k) = some () := by
    unfold keyOk at hk
    split at hk
    · rename_i hd
      unfold Instr.checkKey
      rw [pureSem_bind, pureSem_underlying P kt hd]
      cases k <;> rfl
    · rename_i hd
      unfold Instr.checkKey
      rw [pureSem_bind, pureSem_underlying P kt hd]
      cases k <;> rfl
    · cases e : pureSem P (Instr.checkKey empty 10000 kt k) with
      | none => rw [e] at hk; simp at hk
      | some u => rfl
  exact pureSem_run P _ _ hp w
theorem KV.empty {cells : List U} {es : List MapEntry} (h : KV F L cells es) : cells.isEmpty = es.isEmpty := by
  have := h.len.1
  cases cells <;> cases es <;> simp_all
theorem map_now {ob : Obj} {x gn : Nat} {v : Value} (hS : SR w F L b0 g) (hg : g x = some ob) (hgn : ob.gen = gn) (he : ob.esz = 0) (hr : RepU F L (.map x gn) v) :
    ∃ i es clk, L x = some i ∧ i.gen = ob.gen ∧ i.esz = ob.esz ∧ b0 ≤ i.blk ∧ v = .map (some i.blk) ∧ w.heap[i.blk]? = some (.map es clk) ∧ KV F L ob.cells es.toList ∧ ∀ off, F ⟨i.blk, off, none⟩ = none := by
  obtain ⟨i, arr, hL, r1, r2, r3, r4, hh, r5, hcs, hfr⟩ := hS.obj x ob hg
  have hv : v = .map (some i.blk) := by
    cases hr with
    | map _ i' hL' =>
      rw [hL] at hL'
      obtain rfl := Option.some.inj hL'
      rfl
    | mapOld _ _ i' r hL' hlt =>
      rw [hL] at hL'
      obtain rfl := Option.some.inj hL'
      omega
  rcases hh with ⟨h0, _⟩ | ⟨_, hl, es, clk, hb, harr⟩
  · omega
  · subst harr
    have hf : mapArr es = (flat2 es.toList).toArray := rfl
    refine ⟨i, es, clk, hL, r1, r2, r4, hv, hb, KV.of _ _ (by rw [hl, hf]; simp) fun j u hu => ?_, fun off => ?_⟩
    · obtain ⟨_, v, hv, hr⟩ := hcs j u hu
      exact ⟨v, by rw [hf] at hv; simpa using hv, hr⟩
    · cases e : F ⟨i.blk, off, none⟩ with
      | none => rfl
      | some y =>
        have := hS.mem _ _ e
        simp [World.cell?, hb] at this
theorem run_getMap {r : Nat} {es : Array MapEntry} {clk : Nat} (hb : w.heap[r]? = some (.map es clk)) : (getObj r).run P w = .ok (.map es clk) w := by
  have _s : Sig := inferInstance
  simp [getObj, Sem.run, hb]
theorem run_setMap {r : Nat} {es : Array MapEntry} {clk : Nat} (x : Go.Obj) (hb : w.heap[r]? = some (.map es clk)) : (setObj r x).run P w = .ok () { w with heap := w.heap.setIfInBounds r x } := by
  have _s : Sig := inferInstance
  simp [setObj, Sem.run, hb]
theorem makeMap_ok {id : Nat} {t : TypeId} {r : Res} (hop : o.op = .makeMap t none) (h : opMakeMap id t = some r) (hS : SR w F L b0 g) (hid : g id = none) (hb : b0 ≤ w.heap.size) : OpOk P a o w F L b0 g r := by
  unfold opMakeMap at h
  obtain rfl := Option.some.inj h
  have hnone : L id = none := hS.non id hid
  obtain ⟨hS', hE⟩ := hS.upd (w' := w.alloc (.map #[] 0)) id ⟨t, 0, false, 0, false, []⟩ ⟨0, w.heap.size, 0, 0⟩ #[] (by simp) rfl rfl rfl (fun k hk _ => heap_old w _ hk)
    (.inr ⟨rfl, rfl, #[], 0, heap_alloc_new w _, rfl⟩) (fun _ off => noF hS (Nat.le_refl _)) (fun h => absurd h (Nat.lt_irrefl 0)) rfl rfl hb (Nat.le_refl _)
    (fun off v hv => by rw [noF hS (a := ⟨w.heap.size, off, none⟩) (Nat.le_refl _)] at hv; simp at hv) (fun off _ => noF hS (Nat.le_refl _))
    (.inr ⟨Nat.le_refl _, fun j hj => by rw [hnone] at hj; simp at hj⟩) (fun j u hu => by simp at hu)
  refine ⟨.map (some w.heap.size), _, F, _, .inl ?_, hE, hS', ?_⟩
  · simp [execOp, hop, Instr.makeMap, newObj]
    rfl
  · exact RepU.map (F := F) (L := LPut L id ⟨0, w.heap.size, 0, 0⟩) id ⟨0, w.heap.size, 0, 0⟩ (by simp [LPut])
theorem run_zero {t : TypeId} {z : D} (h : zeroD P t = some z) : ∃ v, (zeroValue t).run P w = .ok v w ∧ Rep F z v := by
  unfold zeroD at h
  split at h
  · rename_i i hi
    obtain ⟨v, hv, hz⟩ := Option.bind_eq_some_iff.1 h
    exact ⟨v, by simp [zeroValue, typeInfo, hi, hv], constD_rep hz⟩
  · simp at h
theorem rep_pair {u : U} {v : Value} {b : Bool} (h : RepU F L u v) : RepU F L (.tup [u, .dat (.bool b)]) (.tuple #[v, .bool b]) := by
  refine .tup _ [v, .bool b] rfl fun i x y hx hy => ?_
  match i with
  | 0 => simp at hx hy; subst hx; subst hy; exact h
  | 1 => simp at hx hy; subst hx; subst hy; exact .dat _ _ (.bool _)
  | i + 2 => simp at hx
theorem lookup_ok {t : TypeId} {x y : Operand} {ok : Bool} {r : Res} (hop : o.op = .lookup t x y ok) (h : (evalU tm x).bind (fun u => (evalU tm y).bind (opLookup P g t ok u)) = some r) (hS : SR w F L b0 g) (hT : TR F L tm a.tmps) : OpOk P a o w F L b0 g r := by
  replace h := Option.bind_eq_some_iff.1 h
  obtain ⟨u, hu, h⟩ := h
  replace h := Option.bind_eq_some_iff.1 h
  obtain ⟨z, hz, h⟩ := h
  have hr := eval_rep hT hu
  have hrz := eval_rep hT hz
  unfold opLookup at h
  split at h
  · rename_i kt et x' gn k hus hk
    have hkv := valU_rep hk hrz
    split at h
    · rename_i ob hg
      split at h
      · rename_i hcond
        obtain ⟨hgn, he, hko⟩ := hcond
        obtain ⟨i, es, clk, hL, r1, r2, r4, hv, hb, hKV, hF⟩ := map_now hS hg hgn he hr
        have hck := keyOk_run (w := w) hko
        rw [hKV.empty] at hck
        have hck' : (Instr.checkKey es.isEmpty 10000 kt k).run P w = .ok () w := by simpa using hck
        split at h
        · rename_i j hf
          obtain ⟨q, hq, hrel⟩ := findU_ok hKV hf
          rcases hrel with ⟨h1, _⟩ | ⟨j', e, h1, h2, rfl⟩
          · simp at h1
          obtain rfl := Option.some.inj h1
          have hfr := pureSem_run P _ _ hq w
          obtain ⟨k', x2, h3, h4, h5, h6⟩ := hKV.get j e h2
          rw [h4] at h
          simp only [Option.map_some, Option.some.injEq] at h
          subst h
          refine .quiet hS rfl (v := if ok then .tuple #[e.val, .bool true] else e.val) ?_ ?_
          · cases ok <;> simp [execOp, hop, Instr.lookup, run_underlying hus, hv, run_getMap hb, hkv, hck', hfr]
          · cases ok
            · exact h6
            · exact rep_pair h6
        · rename_i hf
          obtain ⟨q, hq, hrel⟩ := findU_ok hKV hf
          rcases hrel with ⟨_, rfl⟩ | ⟨j', e, h1, _⟩
          · have hfr := pureSem_run P _ _ hq w
            obtain ⟨zd, hzd, rfl⟩ := Option.map_eq_some_iff.1 h
            obtain ⟨v0, hv0, hrep⟩ := run_zero (w := w) (F := F) hzd
            refine .quiet hS rfl (v := if ok then .tuple #[v0, .bool false] else v0) ?_ ?_
            · cases ok <;> simp [execOp, hop, Instr.lookup, run_underlying hus, hv, run_getMap hb, hkv, hck', hfr, hv0]
            · cases ok
              · exact .dat _ _ hrep
              · exact rep_pair (.dat _ _ hrep)
          · simp at h1
        · simp at h
      · simp at h
    · simp at h
  · simp at h
theorem lenG_ok {t : TypeId} {c : Call} {x : Operand} {r : Res} (hop : o.op = .call c) (hcal : c.callee = .builtin .len) (hargs : c.args.toList = [x]) (htys : c.argTypes.toList = [t])
    (h : (evalU tm x).bind (opLenG P g t) = some r) (hS : SR w F L b0 g) (hT : TR F L tm a.tmps) : OpOk P a o w F L b0 g r := by
  have h' := h
  replace h := Option.bind_eq_some_iff.1 h
  obtain ⟨u, hu, h⟩ := h
  have hr := eval_rep hT hu
  have hca : c.args = #[x] := by rw [← Array.toArray_toList (xs := c.args), hargs]
  have hct : c.argTypes = #[t] := by rw [← Array.toArray_toList (xs := c.argTypes), htys]
  unfold opLenG at h
  split at h
  · rename_i x' gn
    split at h
    · rename_i kt et ob hus hg
      split at h
      · rename_i hcond
        obtain ⟨hgn, he⟩ := hcond
        obtain rfl := Option.some.inj h
        obtain ⟨i, es, clk, hL, r1, r2, r4, hv, hb, hKV, hF⟩ := map_now hS hg hgn he hr
        have hl := hKV.len.1
        have hl2 : ob.cells.length / 2 = es.size := by rw [hl]; simp
        refine .quiet hS rfl ?_ (.dat _ _ (.int ..))
        rw [hl2]
        simp [execOp, hop, resolve, hcal, hca, hct, invoke, builtin, Builtin.len_, run_underlying hus, hv, run_getMap hb, goInt]
      · simp at h
    · simp at h
  · exact len_ok hop hcal hargs htys (by rw [hu]; exact h) hS hT
theorem toList_modify' {α : Type} (xs : Array α) (i : Nat) (f : α → α) : (xs.modify i f).toList = xs.toList.modify i f := by
  have _s : Sig := inferInstance
  apply List.ext_getElem?
  intro j
  rw [Array.getElem?_toList, Array.getElem?_modify, List.getElem?_modify, Array.getElem?_toList]
  split <;> simp_all
theorem SR.mapSet {ob : Obj} {i : Info} {x : Nat} (hS : SR w F L b0 g) (hg : g x = some ob) (hL : L x = some i) (r1 : i.gen = ob.gen) (r2 : i.esz = ob.esz) (he : ob.esz = 0) (r4 : b0 ≤ i.blk) {es es' : Array MapEntry} {clk clk' : Nat} (hb : w.heap[i.blk]? = some (.map es clk))
    (hF : ∀ off, F ⟨i.blk, off, none⟩ = none) {cells' : List U} (hKV : KV F L cells' es'.toList) :
    ∃ L', Evo w F L { w with heap := w.heap.setIfInBounds i.blk (.map es' clk') } F L' ∧ SR { w with heap := w.heap.setIfInBounds i.blk (.map es' clk') } F L' b0 (fun y => if y = x then some { ob with cells := cells' } else g y) := by
  have hlt : i.blk < w.heap.size := (Array.getElem?_eq_some_iff.1 hb).1
  have hf : mapArr es' = (flat2 es'.toList).toArray := rfl
  obtain ⟨h1, h2⟩ := hS.upd (w' := { w with heap := w.heap.setIfInBounds i.blk (.map es' clk') }) x { ob with cells := cells' } i (mapArr es') (by simp) rfl rfl rfl
    (fun k hk hne => by simp [Array.getElem?_setIfInBounds, Ne.symm hne])
    (.inr ⟨he, by rw [hf]; simpa using hKV.len.2, es', clk', by simp [Array.getElem?_setIfInBounds, hlt], rfl⟩) (fun _ => hF) (fun h => by simp only at h; omega) r1 r2 r4 (by rw [hf]; simpa using Nat.le_of_eq hKV.len.2)
    (fun off v hv => by rw [hF off] at hv; simp at hv) (fun off _ => hF off) (.inl ⟨i, hL, rfl, .inl rfl⟩)
    (fun j u hu => by
      obtain ⟨v, hv, hr⟩ := hKV.at j u hu
      exact ⟨fun h => by simp only at h; omega, v, by rw [hf]; simpa using hv, .inl hr⟩)
  exact ⟨_, h2, h1⟩
theorem mapUpdate_ok {t : TypeId} {m k x : Operand} {r : Res} (hop : o.op = .mapUpdate t m k x ∨ o.op = .insert t m k x) (h : (evalU tm m).bind (fun u => (evalU tm k).bind fun v => (evalU tm x).bind (opMapUpdate P g t u v)) = some r) (hS : SR w F L b0 g) (hT : TR F L tm a.tmps) : OpOk P a o w F L b0 g r := by
  replace h := Option.bind_eq_some_iff.1 h
  obtain ⟨u, hu, h⟩ := h
  replace h := Option.bind_eq_some_iff.1 h
  obtain ⟨z, hz, h⟩ := h
  replace h := Option.bind_eq_some_iff.1 h
  obtain ⟨y, hy, h⟩ := h
  have hr := eval_rep hT hu
  have hrz := eval_rep hT hz
  have hry := eval_rep hT hy
  unfold opMapUpdate at h
  split at h
  · rename_i kt et x' gn kv hus hk
    have hkv := valU_rep hk hrz
    split at h
    · rename_i ob hg
      split at h
      · rename_i hcond
        obtain ⟨hgn, he, hko⟩ := hcond
        obtain ⟨i, es, clk, hL, r1, r2, r4, hv, hb, hKV, hF⟩ := map_now hS hg hgn he hr
        have hck := keyOk_run (w := w) hko
        split at h
        · rename_i j hf
          split at h
          · rename_i old hold
            split at h
            · rename_i hsb
              obtain rfl := Option.some.inj h
              obtain ⟨q, hq, hrel⟩ := findU_ok hKV hf
              rcases hrel with ⟨h1, _⟩ | ⟨j', e, h1, h2, rfl⟩
              · simp at h1
              obtain rfl := Option.some.inj h1
              have hfr := pureSem_run P _ _ hq w
              obtain ⟨k', x2, h3, h4, h5, h6⟩ := hKV.get j e h2
              rw [h3] at hold
              have hke : e.key = old := valU_rep hold h5
              have hes : es[j]? = some e := by simpa using h2
              have hks : (Instr.keyThatStays e.key kv).run P w = .ok kv w := by
                unfold Instr.keyThatStays
                rw [hke, if_pos hsb]
                rfl
              obtain ⟨L', hE, hS'⟩ := hS.mapSet hg hL r1 r2 he r4 (es' := es.modify j fun e => { e with key := kv, val := a.eval x }) (clk' := clk) hb hF (cells' := (ob.cells.set (2 * j) z).set (2 * j + 1) y)
                (by rw [toList_modify']; exact hKV.set j (fun e => by rw [← hkv]; exact hrz) (fun e => hry))
              refine ⟨Go.undef, _, F, L', .inr ⟨?_, rfl⟩, hE, hS', .undef⟩
              rcases hop with hop | hop <;> simp [execOp, hop, Instr.mapUpdate, run_underlying hus, hv, run_getMap hb, hkv, hck, hfr, hes, hks, run_setMap _ hb]
            · simp at h
          · simp at h
        · rename_i hf
          obtain rfl := Option.some.inj h
          obtain ⟨q, hq, hrel⟩ := findU_ok hKV hf
          rcases hrel with ⟨_, rfl⟩ | ⟨j', e, h1, _⟩
          · have hfr := pureSem_run P _ _ hq w
            obtain ⟨L', hE, hS'⟩ := hS.mapSet hg hL r1 r2 he r4 (es' := es.push { key := kv, val := a.eval x, born := clk }) (clk' := clk + 1) hb hF (cells' := ob.cells ++ [z, y])
              (by rw [Array.toList_push]; exact hKV.push (by rw [← hkv]; exact hrz) hry)
            refine ⟨Go.undef, _, F, L', .inr ⟨?_, rfl⟩, hE, hS', .undef⟩
            rcases hop with hop | hop <;> simp [execOp, hop, Instr.mapUpdate, run_underlying hus, hv, run_getMap hb, hkv, hck, hfr, run_setMap _ hb]
          · simp at h1
        · simp at h
      · simp at h
    · simp at h
  · simp at h
end
end Go.Proofs.Ytjofhegodknmaaa.V
