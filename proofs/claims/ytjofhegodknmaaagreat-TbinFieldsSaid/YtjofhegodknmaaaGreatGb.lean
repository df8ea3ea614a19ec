/- V, maps: a map of the call's own is looked up, written and made. To: V: what the model's own check of a region says of its slots. -/
import Derived.Test.YtjofhegodknmaaaGreatGa
import Derived.Laws.IdiomStrings
set_option linter.unusedSimpArgs false
set_option linter.unusedVariables false
namespace Go.Proofs.YtjofhegodknmaaaGreat.V
open Go
theorem pureSem_bind {α β : Type} (P : Program) (s : Sem α) (f : α → Sem β) : pureSem P (s >>= f) = (pureSem P s).bind fun a => pureSem P (f a) := by
  show pureSem P (s.bind f) = _
  induction s with
  | pure a => rfl
  | program k ih => simp only [Sem.bind, pureSem]; exact ih P
  | mark m k ih => simp only [Sem.bind, pureSem]; exact ih
  | _ => rfl
@[simp] theorem pureSem_pure {α : Type} (P : Program) (a : α) : pureSem P (pure a : Sem α) = some a := rfl
theorem pureSem_underlying (P : Program) (t : TypeId) {d : TypeDesc} (h : P.underlying t = some d) : pureSem P (underlying t) = some d := by
  unfold underlying
  simp only [pureSem_bind, program, pureSem, Option.bind_some]
  rw [h]
  rfl
theorem beqT_iff : ∀ {a b : List UInt8}, beqT a b = true ↔ a = b
  | [], [] => by simp [beqT]
  | [], _ :: _ => by simp [beqT]
  | _ :: _, [] => by simp [beqT]
  | a :: r, b :: q => by
    simp only [beqT, Bool.and_eq_true, List.cons.injEq, beqT_iff (a := r) (b := q), Nat.beq_eq, UInt8.toNat_inj]
theorem beqS_eq (s y : ByteArray) : (s == y) = (s.data == y.data) := rfl
theorem beqS_refl (s : ByteArray) : (s == s) = true := by rw [beqS_eq]; exact beq_self_eq_true _
def Same (es : List MapEntry) (i : Nat) (r r' : Option (Nat × Value)) : Prop :=
  (r = none ∧ r' = none) ∨ ∃ j e v', r' = some (j, v') ∧ i ≤ j ∧ es[j - i]? = some e ∧ r = some (j, e.val)
theorem Same.shift {es : List MapEntry} {e0 : MapEntry} {i : Nat} {r r' : Option (Nat × Value)} (h : Same es (i + 1) r r') : Same (e0 :: es) i r r' := by
  rcases h with h | ⟨j, e, v', h1, h2, h3, h4⟩
  · exact .inl h
  · refine .inr ⟨j, e, v', h1, by omega, ?_, h4⟩
    have : j - i = (j - (i + 1)) + 1 := by omega
    rw [this, List.getElem?_cons_succ]
    exact h3
theorem findNow_keys (kind : TypeDesc) (k : Value) : ∀ (es es' : List MapEntry) (i : Nat), es.map (·.key) = es'.map (·.key) →
    (Instr.findNow kind k es' i = none → Instr.findNow kind k es i = none) ∧ ∀ r', Instr.findNow kind k es' i = some r' → ∃ r, Instr.findNow kind k es i = some r ∧ Same es i r r'
  | [], [], i, _ => ⟨fun h => h, fun r' h => ⟨r', h, by simp [Instr.findNow] at h; subst h; exact .inl ⟨rfl, rfl⟩⟩⟩
  | [], _ :: _, i, h => by simp at h
  | _ :: _, [], i, h => by simp at h
  | e :: es, e' :: es', i, h => by
    simp only [List.map_cons, List.cons.injEq] at h
    obtain ⟨ih1, ih2⟩ := findNow_keys kind k es es' (i + 1) h.2
    simp only [Instr.findNow, h.1]
    cases hs : Instr.sameNow kind k e'.key with
    | none => exact ⟨fun _ => rfl, fun r' h => by simp at h⟩
    | some b =>
      cases b with
      | true =>
        refine ⟨fun h => by simp at h, fun r' h => ?_⟩
        simp only [Option.some.injEq] at h
        subst h
        exact ⟨_, rfl, .inr ⟨i, e, e'.val, rfl, Nat.le_refl _, by simp, rfl⟩⟩
      | false => exact ⟨ih1, fun r' h => let ⟨r, h1, h2⟩ := ih2 r' h; ⟨r, h1, h2.shift⟩⟩
theorem findAsking_keys (P : Program) (kt : TypeId) (k : Value) : ∀ (es es' : List MapEntry) (i : Nat), es.map (·.key) = es'.map (·.key) →
    ∀ r', pureSem P (Instr.findAsking kt k es' i) = some r' → ∃ r, pureSem P (Instr.findAsking kt k es i) = some r ∧ Same es i r r'
  | [], [], i, _ => fun r' h => ⟨r', h, by simp [Instr.findAsking] at h; subst h; exact .inl ⟨rfl, rfl⟩⟩
  | [], _ :: _, i, h => by simp at h
  | _ :: _, [], i, h => by simp at h
  | e :: es, e' :: es', i, h => by
    simp only [List.map_cons, List.cons.injEq] at h
    have ih := findAsking_keys P kt k es es' (i + 1) h.2
    intro r' hr
    simp only [Instr.findAsking, h.1, pureSem_bind] at hr ⊢
    cases hb : pureSem P (Op.equal kt k e'.key) with
    | none => rw [hb] at hr; simp at hr
    | some b =>
      rw [hb] at hr
      cases b with
      | true =>
        simp at hr
        subst hr
        exact ⟨some (i, e.val), by simp, .inr ⟨i, e, e'.val, rfl, Nat.le_refl _, by simp, rfl⟩⟩
      | false =>
        simp at hr
        obtain ⟨r, h1, h2⟩ := ih r' hr
        exact ⟨r, by simp [h1], h2.shift⟩
theorem findKey_keys (P : Program) (kt : TypeId) (k : Value) (es es' : List MapEntry) (h : es.map (·.key) = es'.map (·.key)) {r' : Option (Nat × Value)} (hr : pureSem P (Instr.findKey kt k es') = some r') :
    ∃ r, pureSem P (Instr.findKey kt k es) = some r ∧ Same es 0 r r' := by
  unfold Instr.findKey at hr ⊢
  rw [pureSem_bind] at hr ⊢
  cases hd : pureSem P (underlying kt) with
  | none => rw [hd] at hr; simp at hr
  | some d =>
    rw [hd] at hr
    simp only [Option.bind_some] at hr ⊢
    obtain ⟨h1, h2⟩ := findNow_keys d k es es' 0 h
    cases hn : Instr.findNow d k es' 0 with
    | none =>
      rw [hn] at hr
      rw [h1 hn]
      exact findAsking_keys P kt k es es' 0 h r' hr
    | some q =>
      rw [hn] at hr
      simp at hr
      subst hr
      obtain ⟨r, h3, h4⟩ := h2 _ hn
      rw [h3]
      exact ⟨r, rfl, h4⟩
theorem runesFrom_int (s : ByteArray) : ∀ (bound i : Nat) (acc : Array Value), (∀ v ∈ acc.toList, ∃ n, v = .int .i32 n) → ∀ v ∈ (Conv.runesFrom s bound i acc).toList, ∃ n, v = .int .i32 n
  | 0, i, acc, h => h
  | bound + 1, i, acc, h => by
    unfold Conv.runesFrom
    split
    · refine runesFrom_int s bound _ _ fun v hv => ?_
      rw [Array.toList_push] at hv
      rcases List.mem_append.1 hv with hv | hv
      · exact h v hv
      · simp at hv; exact ⟨_, hv⟩
    · exact h
theorem runesOfD_some : ∀ {l : List D} {ns : List Int}, runesOfD l = some ns → l = ns.map (D.int .i32)
  | [], ns, h => by simp [runesOfD] at h; subst h; rfl
  | d :: r, ns, h => by
    cases d with
    | int k n =>
      cases k <;> first | (simp [runesOfD] at h; done) | skip
      simp only [runesOfD] at h
      obtain ⟨ns', h1, rfl⟩ := Option.map_eq_some_iff.1 h
      rw [runesOfD_some h1]
      rfl
    | _ => simp [runesOfD] at h
variable [Sig]
inductive KV (F : Mem) (L : Lay) : List U → List MapEntry → Prop
  | nil : KV F L [] []
  | cons (k x : U) (r : List U) (e : MapEntry) (es : List MapEntry) (hk : RepU F L k e.key) (hx : RepU F L x e.val) (h : KV F L r es) : KV F L (k :: x :: r) (e :: es)
def flat2 (es : List MapEntry) : List Value := es.flatMap fun e => [e.key, e.val]
theorem KV.of {F : Mem} {L : Lay} : ∀ (es : List MapEntry) (cells : List U), cells.length = (flat2 es).length → (∀ (j : Nat) u, cells[j]? = some u → ∃ v, (flat2 es)[j]? = some v ∧ RepU F L u v) → KV F L cells es
  | [], cells, hl, h => by
    have : cells = [] := List.eq_nil_of_length_eq_zero (by simpa [flat2] using hl)
    subst this
    exact .nil
  | e :: es, cells, hl, h => by
    have hf : flat2 (e :: es) = e.key :: e.val :: flat2 es := rfl
    rw [hf] at hl h
    match cells, hl, h with
    | [], hl, h => simp at hl
    | [k], hl, h => simp at hl
    | k :: x :: r, hl, h =>
      refine .cons k x r e es ?_ ?_ (KV.of es r (by simpa using hl) fun j u hu => ?_)
      · obtain ⟨v, hv, hr⟩ := h 0 k rfl; simp at hv; subst hv; exact hr
      · obtain ⟨v, hv, hr⟩ := h 1 x rfl; simp at hv; subst hv; exact hr
      · obtain ⟨v, hv, hr⟩ := h (j + 2) u (by simpa using hu); exact ⟨v, by simpa using hv, hr⟩
theorem KV.len {F : Mem} {L : Lay} {cells : List U} {es : List MapEntry} (h : KV F L cells es) : cells.length = 2 * es.length ∧ cells.length = (flat2 es).length := by
  induction h with
  | nil => exact ⟨rfl, rfl⟩
  | cons k x r e es hk hx h ih =>
    obtain ⟨h1, h2⟩ := ih
    have hf : flat2 (e :: es) = e.key :: e.val :: flat2 es := rfl
    rw [hf]
    simp only [List.length_cons]
    omega
theorem KV.at {F : Mem} {L : Lay} {cells : List U} {es : List MapEntry} (h : KV F L cells es) : ∀ (j : Nat) u, cells[j]? = some u → ∃ v, (flat2 es)[j]? = some v ∧ RepU F L u v := by
  induction h with
  | nil => intro j u h; simp at h
  | cons k x r e es hk hx h ih =>
    intro j u hu
    have hf : flat2 (e :: es) = e.key :: e.val :: flat2 es := rfl
    rw [hf]
    match j with
    | 0 => simp at hu; subst hu; exact ⟨_, rfl, hk⟩
    | 1 => simp at hu; subst hu; exact ⟨_, rfl, hx⟩
    | j + 2 => simp at hu; obtain ⟨v, hv, hr⟩ := ih j u hu; exact ⟨v, by simpa using hv, hr⟩
theorem KV.get {F : Mem} {L : Lay} {cells : List U} {es : List MapEntry} (h : KV F L cells es) : ∀ (j : Nat) e, es[j]? = some e → ∃ k x, cells[2 * j]? = some k ∧ cells[2 * j + 1]? = some x ∧ RepU F L k e.key ∧ RepU F L x e.val := by
  induction h with
  | nil => intro j e h; simp at h
  | cons k x r e es hk hx h ih =>
    intro j e' he
    cases j with
    | zero => simp at he; subst he; exact ⟨k, x, rfl, rfl, hk, hx⟩
    | succ j =>
      simp at he
      obtain ⟨k', x', h1, h2, h3, h4⟩ := ih j e' he
      refine ⟨k', x', ?_, ?_, h3, h4⟩
      · rw [show 2 * (j + 1) = 2 * j + 1 + 1 by omega]; simpa using h1
      · rw [show 2 * (j + 1) + 1 = 2 * j + 1 + 1 + 1 by omega]; simpa using h2
theorem KV.push {F : Mem} {L : Lay} {cells : List U} {es : List MapEntry} (h : KV F L cells es) {k x : U} {e : MapEntry} (hk : RepU F L k e.key) (hx : RepU F L x e.val) : KV F L (cells ++ [k, x]) (es ++ [e]) := by
  induction h with
  | nil => exact .cons k x [] e [] hk hx .nil
  | cons k' x' r e' es hk' hx' h ih => exact .cons _ _ _ _ _ hk' hx' ih
theorem KV.set {F : Mem} {L : Lay} {cells : List U} {es : List MapEntry} (h : KV F L cells es) : ∀ (j : Nat) {k x : U} {f : MapEntry → MapEntry}, (∀ e, RepU F L k (f e).key) → (∀ e, RepU F L x (f e).val) → KV F L ((cells.set (2 * j) k).set (2 * j + 1) x) (es.modify j f) := by
  induction h with
  | nil => intro j k x f _ _; simp; exact .nil
  | cons k' x' r e' es hk' hx' h ih =>
    intro j k x f hk hx
    cases j with
    | zero => simp [List.modify_zero_cons]; exact .cons _ _ _ _ _ (hk _) (hx _) h
    | succ j =>
      rw [show 2 * (j + 1) = 2 * j + 1 + 1 by omega]
      simp only [List.set_cons_succ, List.modify_succ_cons]
      exact .cons _ _ _ _ _ hk' hx' (ih j hk hx)
section
variable {P : Program} {a : Act} {o : Oper} {w : World} {F : Mem} {L : Lay} {b0 : Nat} {g : Nat → Option Obj} {tm : List U}
theorem KV.evens {cells : List U} {es : List MapEntry} (h : KV F L cells es) : ∀ {ks : List Value}, (V.evens cells).mapM valU = some ks → es.map (·.key) = ks := by
  induction h with
  | nil => intro ks h; simp [V.evens] at h; subst h; rfl
  | cons k x r e es hk hx h ih =>
    intro ks hm
    simp only [V.evens, List.mapM_cons] at hm
    cases hv : valU k with
    | none => rw [hv] at hm; simp at hm
    | some v =>
      cases hr : (V.evens r).mapM valU with
      | none => rw [hv, hr] at hm; simp at hm
      | some ks' =>
        rw [hv, hr] at hm
        simp at hm
        subst hm
        rw [List.map_cons, ih hr, valU_rep hv hk]
theorem findS_ok {s : ByteArray} {cells : List U} {es : List MapEntry} (h : KV F L cells es) : ∀ {i : Nat} {r : Option Nat}, findS s.data.toList cells i = some r →
    ∃ q, Instr.findNow .string (.string s) es i = some q ∧ ((r = none ∧ q = none) ∨ ∃ j e, r = some j ∧ i ≤ j ∧ es[j - i]? = some e ∧ q = some (j, e.val)) := by
  induction h with
  | nil =>
    intro i r hr
    simp [findS] at hr
    subst hr
    exact ⟨none, rfl, .inl ⟨rfl, rfl⟩⟩
  | cons k x rest e es hk hx h ih =>
    intro i r hr
    unfold findS at hr
    split at hr
    · rename_i e0; simp at e0
    · rename_i i' y xx r' e0
      simp only [List.cons.injEq] at e0
      obtain ⟨rfl, rfl, rfl⟩ := e0
      cases hk with
      | dat _ _ hk =>
        have hke : e.key = .string y := by
          generalize e.key = z at hk
          cases hk
          rfl
        simp only [Instr.findNow, hke, Instr.sameNow]
        by_cases hb : beqT s.data.toList y.data.toList = true
        · rw [if_pos hb] at hr
          obtain rfl := Option.some.inj hr
          have : s = y := by
            have := beqT_iff.1 hb
            obtain ⟨⟨s⟩⟩ := s
            obtain ⟨⟨y⟩⟩ := y
            simp at this
            rw [this]
          subst this
          rw [beqS_refl]
          exact ⟨_, rfl, .inr ⟨_, e, rfl, Nat.le_refl _, by simp, rfl⟩⟩
        · rw [if_neg hb] at hr
          have hne : (s == y) = false := by
            rw [beqS_eq, beq_eq_false_iff_ne]
            intro h0
            exact hb (beqT_iff.2 (by rw [h0]))
          simp only [hne]
          obtain ⟨q, h1, h2⟩ := ih hr
          refine ⟨q, h1, ?_⟩
          rcases h2 with h2 | ⟨j, e', h3, h4, h5, h6⟩
          · exact .inl h2
          · refine .inr ⟨j, e', h3, by omega, ?_, h6⟩
            have e1 : ∀ m, m + 1 ≤ j → j - m = (j - (m + 1)) + 1 := fun m hm => by omega
            rw [e1 _ h4, List.getElem?_cons_succ]
            exact h5
    · simp at hr
theorem findU_ok {kt : TypeId} {k : Value} {cells : List U} {es : List MapEntry} (h : KV F L cells es) {r : Option Nat} (hr : findU P kt k cells = some r) :
    ∃ q, pureSem P (Instr.findKey kt k es) = some q ∧ ((r = none ∧ q = none) ∨ ∃ j e, r = some j ∧ es[j]? = some e ∧ q = some (j, e.val)) := by
  unfold findU at hr
  split at hr
  · rename_i s hd
    obtain ⟨q, h1, h2⟩ := findS_ok h hr
    refine ⟨q, ?_, ?_⟩
    · unfold Instr.findKey
      rw [pureSem_bind, pureSem_underlying P kt hd]
      simp [h1]
    · rcases h2 with h2 | ⟨j, e, h3, _, h5, h6⟩
      · exact .inl h2
      · exact .inr ⟨j, e, h3, by simpa using h5, h6⟩
  · unfold findK at hr
    split at hr
    · rename_i ks hks
      obtain ⟨r', hr', rfl⟩ := Option.map_eq_some_iff.1 hr
      have hk := h.evens hks
      obtain ⟨q, h1, h2⟩ := findKey_keys P kt _ es _ (by rw [hk, List.map_map]; simp [Function.comp_def]) hr'
      refine ⟨q, h1, ?_⟩
      rcases h2 with ⟨h2, h3⟩ | ⟨j, e, v', h2, _, h5, h3⟩
      · rw [h3]; exact .inl ⟨rfl, h2⟩
      · rw [h2]; exact .inr ⟨j, e, rfl, by simpa using h5, h3⟩
    · simp at hr
theorem keyOk_run {kt : TypeId} {k : Value} {empty : Bool} (hk : keyOk P kt k empty = true) : (Instr.checkKey empty 10000 kt k).run P w = .ok () w := by
  have _s : Sig := inferInstance
  have hp : pureSem P (Instr.checkKey empty 10000 kt k) = some () := by
    unfold keyOk at hk
    split at hk
    · rename_i hd
      unfold Instr.checkKey
      rw [pureSem_bind, pureSem_underlying P kt hd]
      cases k <;> rfl
    · rename_i hd
      unfold Instr.checkKey
      rw [pureSem_bind, pureSem_underlying P kt hd]
      cases k <;> rfl
    · cases e : pureSem P (Instr.checkKey empty 10000 kt k) with
      | none => rw [e] at hk; simp at hk
      | some u => rfl
  exact pureSem_run P _ _ hp w
theorem KV.empty {cells : List U} {es : List MapEntry} (h : KV F L cells es) : cells.isEmpty = es.isEmpty := by
  have := h.len.1
  cases cells <;> cases es <;> simp_all
theorem map_now {ob : Obj} {x gn : Nat} {v : Value} (hS : SR w F L b0 g) (hg : g x = some ob) (hgn : ob.gen = gn) (he : ob.esz = 0) (hr : RepU F L (.map x gn) v) :
    ∃ i es clk, L x = some i ∧ i.gen = ob.gen ∧ i.esz = ob.esz ∧ b0 ≤ i.blk ∧ v = .map (some i.blk) ∧ w.heap[i.blk]? = some (.map es clk) ∧ KV F L ob.cells es.toList ∧ ∀ off, F ⟨i.blk, off, none⟩ = none := by
  obtain ⟨i, arr, hL, r1, r2, r3, r4, hh, r5, hcs, hfr⟩ := hS.obj x ob hg
  have hv : v = .map (some i.blk) := by
    cases hr with
    | map _ i' hL' =>
      rw [hL] at hL'
      obtain rfl := Option.some.inj hL'
      rfl
    | mapOld _ _ i' r hL' hlt =>
      rw [hL] at hL'
      obtain rfl := Option.some.inj hL'
      omega
  rcases hh with ⟨h0, _⟩ | ⟨_, hl, es, clk, hb, harr⟩
  · omega
  · subst harr
    have hf : mapArr es = (flat2 es.toList).toArray := rfl
    refine ⟨i, es, clk, hL, r1, r2, r4, hv, hb, KV.of _ _ (by rw [hl, hf]; simp) fun j u hu => ?_, fun off => ?_⟩
    · obtain ⟨_, v, hv, hr⟩ := hcs j u hu
      exact ⟨v, by rw [hf] at hv; simpa using hv, hr⟩
    · cases e : F ⟨i.blk, off, none⟩ with
      | none => rfl
      | some y =>
        have := hS.mem _ _ e
        simp [World.cell?, hb] at this
theorem run_getMap {r : Nat} {es : Array MapEntry} {clk : Nat} (hb : w.heap[r]? = some (.map es clk)) : (getObj r).run P w = .ok (.map es clk) w := by
  have _s : Sig := inferInstance
  simp [getObj, Sem.run, hb]
theorem run_setMap {r : Nat} {es : Array MapEntry} {clk : Nat} (x : Go.Obj) (hb : w.heap[r]? = some (.map es clk)) : (setObj r x).run P w = .ok () { w with heap := w.heap.setIfInBounds r x } := by
  have _s : Sig := inferInstance
  simp [setObj, Sem.run, hb]
theorem makeMap_ok {id : Nat} {t : TypeId} {r : Res} (hop : o.op = .makeMap t none) (h : opMakeMap id t = some r) (hS : SR w F L b0 g) (hid : g id = none) (hb : b0 ≤ w.heap.size) : OpOk P a o w F L b0 g r := by
  unfold opMakeMap at h
  obtain rfl := Option.some.inj h
  have hnone : L id = none := hS.non id hid
  obtain ⟨hS', hE⟩ := hS.upd (w' := w.alloc (.map #[] 0)) id ⟨t, 0, false, 0, false, []⟩ ⟨0, w.heap.size, 0, 0⟩ #[] (by simp) rfl rfl rfl (fun k hk _ => heap_old w _ hk)
    (.inr ⟨rfl, rfl, #[], 0, heap_alloc_new w _, rfl⟩) (fun _ off => noF hS (Nat.le_refl _)) (fun h => absurd h (Nat.lt_irrefl 0)) rfl rfl hb (Nat.le_refl _)
    (fun off v hv => by rw [noF hS (a := ⟨w.heap.size, off, none⟩) (Nat.le_refl _)] at hv; simp at hv) (fun off _ => noF hS (Nat.le_refl _))
    (.inr ⟨Nat.le_refl _, fun j hj => by rw [hnone] at hj; simp at hj⟩) (fun j u hu => by simp at hu)
  refine ⟨.map (some w.heap.size), _, F, _, .inl ?_, hE, hS', ?_⟩
  · simp [execOp, hop, Instr.makeMap, newObj]
    rfl
  · exact RepU.map (F := F) (L := LPut L id ⟨0, w.heap.size, 0, 0⟩) id ⟨0, w.heap.size, 0, 0⟩ (by simp [LPut])
theorem run_zero {t : TypeId} {z : D} (h : zeroD P t = some z) : ∃ v, (zeroValue t).run P w = .ok v w ∧ Rep F z v := by
  unfold zeroD at h
  split at h
  · rename_i i hi
    obtain ⟨v, hv, hz⟩ := Option.bind_eq_some_iff.1 h
    exact ⟨v, by simp [zeroValue, typeInfo, hi, hv], constD_rep hz⟩
  · simp at h
theorem rep_pair {u : U} {v : Value} {b : Bool} (h : RepU F L u v) : RepU F L (.tup [u, .dat (.bool b)]) (.tuple #[v, .bool b]) := by
  refine .tup _ [v, .bool b] rfl fun i x y hx hy => ?_
  match i with
  | 0 => simp at hx hy; subst hx; subst hy; exact h
  | 1 => simp at hx hy; subst hx; subst hy; exact .dat _ _ (.bool _)
  | i + 2 => simp at hx
theorem lookup_ok {t : TypeId} {x y : Operand} {ok : Bool} {r : Res} (hop : o.op = .lookup t x y ok) (h : (evalU tm x).bind (fun u => (evalU tm y).bind (opLookup P g t ok u)) = some r) (hS : SR w F L b0 g) (hT : TR F L tm a.tmps) : OpOk P a o w F L b0 g r := by
  replace h := Option.bind_eq_some_iff.1 h
  obtain ⟨u, hu, h⟩ := h
  replace h := Option.bind_eq_some_iff.1 h
  obtain ⟨z, hz, h⟩ := h
  have hr := eval_rep hT hu
  have hrz := eval_rep hT hz
  unfold opLookup at h
  split at h
  · rename_i kt et x' gn k hus hk
    have hkv := valU_rep hk hrz
    split at h
    · rename_i ob hg
      split at h
      · rename_i hcond
        obtain ⟨hgn, he, hko⟩ := hcond
        obtain ⟨i, es, clk, hL, r1, r2, r4, hv, hb, hKV, hF⟩ := map_now hS hg hgn he hr
        have hck := keyOk_run (w := w) hko
        rw [hKV.empty] at hck
        have hck' : (Instr.checkKey es.isEmpty 10000 kt k).run P w = .ok () w := by simpa using hck
        split at h
        · rename_i j hf
          obtain ⟨q, hq, hrel⟩ := findU_ok hKV hf
          rcases hrel with ⟨h1, _⟩ | ⟨j', e, h1, h2, rfl⟩
          · simp at h1
          obtain rfl := Option.some.inj h1
          have hfr := pureSem_run P _ _ hq w
          obtain ⟨k', x2, h3, h4, h5, h6⟩ := hKV.get j e h2
          rw [h4] at h
          simp only [Option.map_some, Option.some.injEq] at h
          subst h
          refine .quiet hS rfl (v := if ok then .tuple #[e.val, .bool true] else e.val) ?_ ?_
          · cases ok <;> simp [execOp, hop, Instr.lookup, run_underlying hus, hv, run_getMap hb, hkv, hck', hfr]
          · cases ok
            · exact h6
            · exact rep_pair h6
        · rename_i hf
          obtain ⟨q, hq, hrel⟩ := findU_ok hKV hf
          rcases hrel with ⟨_, rfl⟩ | ⟨j', e, h1, _⟩
          · have hfr := pureSem_run P _ _ hq w
            obtain ⟨zd, hzd, rfl⟩ := Option.map_eq_some_iff.1 h
            obtain ⟨v0, hv0, hrep⟩ := run_zero (w := w) (F := F) hzd
            refine .quiet hS rfl (v := if ok then .tuple #[v0, .bool false] else v0) ?_ ?_
            · cases ok <;> simp [execOp, hop, Instr.lookup, run_underlying hus, hv, run_getMap hb, hkv, hck', hfr, hv0]
            · cases ok
              · exact .dat _ _ hrep
              · exact rep_pair (.dat _ _ hrep)
          · simp at h1
        · simp at h
      · simp at h
    · simp at h
  · simp at h
theorem lenG_ok {t : TypeId} {c : Call} {x : Operand} {r : Res} (hop : o.op = .call c) (hcal : c.callee = .builtin .len) (hargs : c.args.toList = [x]) (htys : c.argTypes.toList = [t])
    (h : (evalU tm x).bind (opLenG P g t) = some r) (hS : SR w F L b0 g) (hT : TR F L tm a.tmps) : OpOk P a o w F L b0 g r := by
  have h' := h
  replace h := Option.bind_eq_some_iff.1 h
  obtain ⟨u, hu, h⟩ := h
  have hr := eval_rep hT hu
  have hca : c.args = #[x] := by rw [← Array.toArray_toList (xs := c.args), hargs]
  have hct : c.argTypes = #[t] := by rw [← Array.toArray_toList (xs := c.argTypes), htys]
  unfold opLenG at h
  split at h
  · rename_i x' gn
    split at h
    · rename_i kt et ob hus hg
      split at h
      · rename_i hcond
        obtain ⟨hgn, he⟩ := hcond
        obtain rfl := Option.some.inj h
        obtain ⟨i, es, clk, hL, r1, r2, r4, hv, hb, hKV, hF⟩ := map_now hS hg hgn he hr
        have hl := hKV.len.1
        have hl2 : ob.cells.length / 2 = es.size := by rw [hl]; simp
        refine .quiet hS rfl ?_ (.dat _ _ (.int ..))
        rw [hl2]
        simp [execOp, hop, resolve, hcal, hca, hct, invoke, builtin, Builtin.len_, run_underlying hus, hv, run_getMap hb, goInt]
      · simp at h
    · simp at h
  · exact len_ok hop hcal hargs htys (by rw [hu]; exact h) hS hT
theorem toList_modify' {α : Type} (xs : Array α) (i : Nat) (f : α → α) : (xs.modify i f).toList = xs.toList.modify i f := by
  have _s : Sig := inferInstance
  apply List.ext_getElem?
  intro j
  rw [Array.getElem?_toList, Array.getElem?_modify, List.getElem?_modify, Array.getElem?_toList]
  split <;> simp_all
theorem SR.mapSet {ob : Obj} {i : Info} {x : Nat} (hS : SR w F L b0 g) (hg : g x = some ob) (hL : L x = some i) (r1 : i.gen = ob.gen) (r2 : i.esz = ob.esz) (he : ob.esz = 0) (r4 : b0 ≤ i.blk) {es es' : Array MapEntry} {clk clk' : Nat} (hb : w.heap[i.blk]? = some (.map es clk))
    (hF : ∀ off, F ⟨i.blk, off, none⟩ = none) {cells' : List U} (hKV : KV F L cells' es'.toList) :
    ∃ L', Evo w F L { w with heap := w.heap.setIfInBounds i.blk (.map es' clk') } F L' ∧ SR { w with heap := w.heap.setIfInBounds i.blk (.map es' clk') } F L' b0 (fun y => if y = x then some { ob with cells := cells' } else g y) := by
  have hlt : i.blk < w.heap.size := (Array.getElem?_eq_some_iff.1 hb).1
  have hf : mapArr es' = (flat2 es'.toList).toArray := rfl
  obtain ⟨h1, h2⟩ := hS.upd (w' := { w with heap := w.heap.setIfInBounds i.blk (.map es' clk') }) x { ob with cells := cells' } i (mapArr es') (by simp) rfl rfl rfl
    (fun k hk hne => by simp [Array.getElem?_setIfInBounds, Ne.symm hne])
    (.inr ⟨he, by rw [hf]; simpa using hKV.len.2, es', clk', by simp [Array.getElem?_setIfInBounds, hlt], rfl⟩) (fun _ => hF) (fun h => by simp only at h; omega) r1 r2 r4 (by rw [hf]; simpa using Nat.le_of_eq hKV.len.2)
    (fun off v hv => by rw [hF off] at hv; simp at hv) (fun off _ => hF off) (.inl ⟨i, hL, rfl, .inl rfl⟩)
    (fun j u hu => by
      obtain ⟨v, hv, hr⟩ := hKV.at j u hu
      exact ⟨fun h => by simp only at h; omega, v, by rw [hf]; simpa using hv, .inl hr⟩)
  exact ⟨_, h2, h1⟩
theorem mapUpdate_ok {t : TypeId} {m k x : Operand} {r : Res} (hop : o.op = .mapUpdate t m k x ∨ o.op = .insert t m k x) (h : (evalU tm m).bind (fun u => (evalU tm k).bind fun v => (evalU tm x).bind (opMapUpdate P g t u v)) = some r) (hS : SR w F L b0 g) (hT : TR F L tm a.tmps) : OpOk P a o w F L b0 g r := by
  replace h := Option.bind_eq_some_iff.1 h
  obtain ⟨u, hu, h⟩ := h
  replace h := Option.bind_eq_some_iff.1 h
  obtain ⟨z, hz, h⟩ := h
  replace h := Option.bind_eq_some_iff.1 h
  obtain ⟨y, hy, h⟩ := h
  have hr := eval_rep hT hu
  have hrz := eval_rep hT hz
  have hry := eval_rep hT hy
  unfold opMapUpdate at h
  split at h
  · rename_i kt et x' gn kv hus hk
    have hkv := valU_rep hk hrz
    split at h
    · rename_i ob hg
      split at h
      · rename_i hcond
        obtain ⟨hgn, he, hko⟩ := hcond
        obtain ⟨i, es, clk, hL, r1, r2, r4, hv, hb, hKV, hF⟩ := map_now hS hg hgn he hr
        have hck := keyOk_run (w := w) hko
        split at h
        · rename_i j hf
          split at h
          · rename_i old hold
            split at h
            · rename_i hsb
              obtain rfl := Option.some.inj h
              obtain ⟨q, hq, hrel⟩ := findU_ok hKV hf
              rcases hrel with ⟨h1, _⟩ | ⟨j', e, h1, h2, rfl⟩
              · simp at h1
              obtain rfl := Option.some.inj h1
              have hfr := pureSem_run P _ _ hq w
              obtain ⟨k', x2, h3, h4, h5, h6⟩ := hKV.get j e h2
              rw [h3] at hold
              have hke : e.key = old := valU_rep hold h5
              have hes : es[j]? = some e := by simpa using h2
              have hks : (Instr.keyThatStays e.key kv).run P w = .ok kv w := by
                unfold Instr.keyThatStays
                rw [hke, if_pos hsb]
                rfl
              obtain ⟨L', hE, hS'⟩ := hS.mapSet hg hL r1 r2 he r4 (es' := es.modify j fun e => { e with key := kv, val := a.eval x }) (clk' := clk) hb hF (cells' := (ob.cells.set (2 * j) z).set (2 * j + 1) y)
                (by rw [toList_modify']; exact hKV.set j (fun e => by rw [← hkv]; exact hrz) (fun e => hry))
              refine ⟨Go.undef, _, F, L', .inr ⟨?_, rfl⟩, hE, hS', .undef⟩
              rcases hop with hop | hop <;> simp [execOp, hop, Instr.mapUpdate, run_underlying hus, hv, run_getMap hb, hkv, hck, hfr, hes, hks, run_setMap _ hb]
            · simp at h
          · simp at h
        · rename_i hf
          obtain rfl := Option.some.inj h
          obtain ⟨q, hq, hrel⟩ := findU_ok hKV hf
          rcases hrel with ⟨_, rfl⟩ | ⟨j', e, h1, _⟩
          · have hfr := pureSem_run P _ _ hq w
            obtain ⟨L', hE, hS'⟩ := hS.mapSet hg hL r1 r2 he r4 (es' := es.push { key := kv, val := a.eval x, born := clk }) (clk' := clk + 1) hb hF (cells' := ob.cells ++ [z, y])
              (by rw [Array.toList_push]; exact hKV.push (by rw [← hkv]; exact hrz) hry)
            refine ⟨Go.undef, _, F, L', .inr ⟨?_, rfl⟩, hE, hS', .undef⟩
            rcases hop with hop | hop <;> simp [execOp, hop, Instr.mapUpdate, run_underlying hus, hv, run_getMap hb, hkv, hck, hfr, run_setMap _ hb]
          · simp at h1
        · simp at h
      · simp at h
    · simp at h
  · simp at h
end
end Go.Proofs.YtjofhegodknmaaaGreat.V
namespace Go.Proofs.YtjofhegodknmaaaGreat.V
open Go
variable [Sig]
section
variable {P : Program} {a : Act} {o : Oper} {w : World} {F : Mem} {L : Lay} {b0 : Nat} {g : Nat → Option Obj} {tm : List U}
theorem makeSlice_ok {id : Nat} {t : TypeId} {x y : Operand} {r : Res} (hop : o.op = .makeSlice t x y) (h : (evalU tm x).bind (fun u => (evalU tm y).bind (opMakeSlice P id t u)) = some r) (hS : SR w F L b0 g) (hT : TR F L tm a.tmps) (hid : g id = none) (hb : b0 ≤ w.heap.size) :
    OpOk P a o w F L b0 g r := by
  replace h := Option.bind_eq_some_iff.1 h
  obtain ⟨u, hu, h⟩ := h
  replace h := Option.bind_eq_some_iff.1 h
  obtain ⟨v, hv, h⟩ := h
  have hr := eval_rep hT hu
  have hrv := eval_rep hT hv
  unfold opMakeSlice at h
  split at h
  · rename_i e n m hus
    split at h
    · rename_i i ag z hi ha hz
      split at h
      · rename_i hcond
        obtain ⟨h0, hnm, hlim, hsz, hby, hzl⟩ := hcond
        obtain rfl := Option.some.inj h
        obtain ⟨i', zv, hi', hzv, hzm⟩ := zeroT_info hz
        rw [hi] at hi'
        obtain rfl := Option.some.inj hi'
        have e1 := ix_inv hr
        have e2 := ix_inv hrv
        obtain ⟨N, rfl⟩ : ∃ N : Nat, n = (N : Int) := ⟨n.toNat, by omega⟩
        obtain ⟨M, rfl⟩ : ∃ M : Nat, m = (M : Int) := ⟨m.toNat, by omega⟩
        have hMi : M * i.bytes ≤ 140737488355328 := by
          rw [← Int.natCast_mul] at hlim
          omega
        have hM : M ≤ 140737488355328 := Nat.le_trans (Nat.le_mul_of_pos_right M hby) hMi
        have hNM : N ≤ M := by omega
        have hrun : (Instr.makeSlice t (.int .i64 N) (.int .i64 M)).run P w = .ok (.slice (some ⟨w.heap.size, 0, none⟩) N M) (w.alloc (.cells ((Array.range (M * i.size)).map (zv.cells[· % zv.cells.size]!)) e)) := by
          have w1 : IntKind.i64.wrap (N : Int) = N := IntWalk.i64_in _ (by omega)
          have w2 : IntKind.i64.wrap (M : Int) = M := IntWalk.i64_in _ (by omega)
          have hs : (sizeOf e).run P w = .ok i.size w := by simp [sizeOf, typeInfo, hi]
          have ht : (typeInfo e).run P w = .ok i w := by simp [typeInfo, hi]
          have hz' : (zeroValue e).run P w = .ok zv w := by simp [zeroValue, typeInfo, hi, hzv]
          have hbM : (i.bytes : Int) * (M : Int) ≤ 140737488355328 := by rw [Int.mul_comm]; exact hlim
          unfold Instr.makeSlice
          simp only [Sem.run_bind, run_underlying hus, Result.andThen_ok, asInt, asIntOf, Sem.run_pure, ht, w1, w2]
          rw [if_neg (by
            have : (2 : Int) ^ 48 = 281474976710656 := rfl
            simp only [Bool.or_eq_true, decide_eq_true_eq, this]
            omega)]
          simp only [Sem.run_bind, run_askRoom, Result.andThen_ok, hs, Int.toNat_natCast]
          by_cases hm0 : M * i.size = 0
          · rw [if_pos hm0]
            have e0 : ∀ f : Nat → Value, (Array.range (M * i.size)).map f = #[] := by
              intro f
              rw [hm0]
              simp
            simp only [pure_bind, e0]
            rfl
          · rw [if_neg hm0]
            simp only [Sem.run_bind, hz', Result.andThen_ok, Sem.run_pure]
            rfl
        obtain ⟨inf, hL, g1, g2, g3, g4, hS', hE⟩ := hS.alloc id ⟨e, i.size, ag, 0, false, repeatD z N⟩ ((Array.range (M * i.size)).map (zv.cells[· % zv.cells.size]!)) hb hid hsz rfl
          (by simp [repeatD_length, hzl]; exact Nat.mul_le_mul_right _ hNM) (zeros_ok hzm (by omega) N (M * i.size) (by rw [hzl]; exact Nat.mul_le_mul_right _ hNM) F L)
        refine ⟨.slice (some ⟨w.heap.size, 0, none⟩) N M, _, F, _, .inl ?_, hE, ?_, ?_⟩
        · simp only [execOp, hop, Sem.run_bind, e1, e2]
          rw [hrun]
          rfl
        · exact hS'
        · have := RepU.own (F := F) id 0 N M inf hL hNM (by rw [g3, g4]; simp)
          rw [g1, g2] at this
          simpa using this
      · simp at h
    · simp at h
  · simp at h
theorem bytesOfD_some : ∀ {l : List D} {b : List UInt8}, bytesOfD l = some b → b.length = l.length ∧ ∀ (j : Nat) y, l[j]? = some y → ∃ n : Int, y = .int .u8 n ∧ b[j]? = some (UInt8.ofNat n.toNat) := by
  have _s : Sig := inferInstance
  intro l
  induction l with
  | nil => intro b h; simp [bytesOfD] at h; subst h; exact ⟨rfl, fun j y h => by simp at h⟩
  | cons d l ih =>
    intro b h
    obtain ⟨n, rfl, b', hb', rfl⟩ : ∃ n, d = .int .u8 n ∧ ∃ b', bytesOfD l = some b' ∧ UInt8.ofNat n.toNat :: b' = b := by
      unfold bytesOfD at h
      split at h
      · rename_i e; simp at e
      · rename_i n r e
        obtain ⟨rfl, rfl⟩ := List.cons.inj e
        obtain ⟨b', hb', e'⟩ := Option.map_eq_some_iff.1 h
        exact ⟨n, rfl, b', hb', e'⟩
      · simp at h
    obtain ⟨h1, h2⟩ := ih hb'
    refine ⟨by simp [h1], fun j y hy => ?_⟩
    cases j with
    | zero => simp at hy; subst hy; exact ⟨n, rfl, rfl⟩
    | succ j => simp at hy; simpa using h2 j y hy
theorem push_all : ∀ (ns : List Int) (s : ByteArray), ns.foldl (fun r n => r.push (UInt8.ofNat n.toNat)) s = ⟨s.data ++ (ns.map fun n => UInt8.ofNat n.toNat).toArray⟩ := by
  have _s : Sig := inferInstance
  intro ns
  induction ns with
  | nil => intro s; simp
  | cons n ns ih =>
    intro s
    rw [List.foldl_cons, ih]
    congr 1
    apply Array.ext'
    simp [ByteArray.push]
theorem toStr_ok {ad : Addr} {n c : Nat} {l : List D} {b : List UInt8} (hb : bytesOfD l = some b) (hn : l.length = n) (val : Nat → Value) (hc : ∀ (j : Nat) y, l[j]? = some y → w.cell? (ad.add j) = some (val j) ∧ Rep F y (val j)) :
    (Conv.bytesToString (.slice (some ad) n c)).run P w = .ok (.string ⟨b.toArray⟩) w := by
  obtain ⟨hl, hg⟩ := bytesOfD_some hb
  have hex : ∀ j : Nat, ∃ m : Int, j < n → val j = .int .u8 m ∧ b[j]? = some (UInt8.ofNat m.toNat) := by
    intro j
    by_cases hj : j < n
    · obtain ⟨m, hm, hbm⟩ := hg j l[j] (List.getElem?_eq_getElem (by omega))
      refine ⟨m, fun _ => ⟨?_, hbm⟩⟩
      have := (hc j l[j] (List.getElem?_eq_getElem (by omega))).2
      rw [hm] at this
      generalize val j = v at this
      cases this
      rfl
    · exact ⟨0, fun h => absurd h hj⟩
  have hns : (((List.range n).map fun j => (hex j).choose).map (Value.int .u8)).length = n := by simp
  have hload := run_loadCells_list (P := P) w ad (((List.range n).map fun j => (hex j).choose).map (Value.int .u8)) (fun j v hv => by
    have hj : j < n := by have := (List.getElem?_eq_some_iff.1 hv).1; rw [hns] at this; exact this
    have h2 := (hex j).choose_spec hj
    rw [List.getElem?_map, List.getElem?_map, List.getElem?_range hj] at hv
    simp at hv
    subst hv
    rw [← h2.1]
    exact (hc j l[j] (List.getElem?_eq_getElem (by omega))).1)
  rw [hns] at hload
  rw [run_bytesToString w ad n c _ hload, push_all]
  congr 3
  apply Array.ext'
  simp
  apply List.ext_getElem?
  intro j
  by_cases hj : j < n
  · have h2 := (hex j).choose_spec hj
    rw [h2.2]
    simp [hj]
  · rw [List.getElem?_eq_none (by simp; omega), List.getElem?_eq_none (by omega)]
theorem bytes_ok {s d e : TypeId} {x : ByteArray} {v : Value} (hS : SR w F L b0 g) (hex : execOp a.eval o = (do pure (.value (← convert s d v)))) (hv : v = .string x) (hs : P.underlying s = some .string) (hd : P.underlying d = some (.slice e)) (he : P.underlying e = some (.int .u8)) :
    OpOk P a o w F L b0 g ⟨.dat (.lst (x.data.toList.map fun b => .int .u8 b.toNat)), [], []⟩ := by
  subst hv
  have hrun := run_bytes_of_string (P := P) w s d e x hs hd he
  generalize hcap : grownCap w x.size 0 e = cap at hrun
  have hcapl : x.size ≤ cap := by
    rw [← hcap]
    exact grownCap_ge w x.size 0 e
  generalize hrow : bytesRow x cap = row at hrun
  have hget : ∀ (j : Nat), j < x.size → row[j]? = some (.int .u8 (x.data.toList.getD j 0).toNat) := by
    intro j hj
    have hj' : j < x.data.size := hj
    rw [← hrow]
    have hx : x.data[j]? = some x.data[j] := Array.getElem?_eq_getElem hj'
    simp [bytesRow, Array.getElem?_append, List.getD, hx, hj]
  generalize hw' : w.drew.alloc (.cells row e (row.size, row.size + 1)) = w' at hrun
  have hheap : w'.heap = w.heap.push (.cells row e (row.size, row.size + 1)) := by rw [← hw']; rfl
  have hnew : w'.heap[w.heap.size]? = some (.cells row e (row.size, row.size + 1)) := by rw [hheap]; simp
  have hold : ∀ k, k < w.heap.size → w'.heap[k]? = w.heap[k]? := fun k hk => by rw [hheap, Array.getElem?_push, if_neg (by omega)]
  let F' : Mem := fun q => if q.block = w.heap.size ∧ q.spot = none ∧ q.off < x.size then w'.cell? q else F q
  have hmem : ∀ q u, F' q = some u → w'.cell? q = some u := by
    intro q u hq
    simp only [F'] at hq
    split at hq
    · exact hq
    · have h1 := hS.mem q u hq
      have hlt : q.block < w.heap.size := by
        rcases Nat.lt_or_ge q.block w.heap.size with h2 | h2
        · exact h2
        · rw [noF hS h2] at hq; simp at hq
      rw [World.cell?_of_block (w := w) (hold q.block hlt)]
      exact h1
  have hE : Evo w F none0 w' F' none0 := by
    refine ⟨by rw [hheap]; simp, by rw [← hw']; rfl, by rw [← hw']; rfl, by rw [← hw']; rfl, fun q u hq => ?_, .refl _, fun k hk _ => hold k hk, fun q hq => ?_, fun o' i hi => by simp [none0] at hi⟩
    · simp only [F']
      rw [if_neg]
      · exact hq
      · rintro ⟨h1, _⟩
        rw [noF hS (by omega)] at hq
        simp at hq
    · left
      simp only [F'] at hq
      split at hq
      · rename_i h1; omega
      · exact absurd rfl hq
  refine ⟨_, w', F', L, .inl ?_, (Evo.refl w F L).after hE, hS.after hE hmem, .dat _ _ (?_ : Rep F' _ (.slice (some ⟨w.heap.size, 0, none⟩) x.size cap))⟩
  · rw [hex]
    simp [hrun]
  · have hl : (x.data.toList.map fun b => D.int .u8 b.toNat).length = x.size := by simp
    have key := Rep.lst (F := F') (x.data.toList.map fun b => D.int .u8 b.toNat) ⟨w.heap.size, 0, none⟩ cap 1 (fun i _ => .int .u8 (x.data.toList.getD i 0).toNat) (by rw [hl]; exact hcapl)
      (fun y hy => by obtain ⟨b, _, rfl⟩ := List.mem_map.1 hy; rfl)
      (fun i y j z hy hz => by
        rw [List.getElem?_map] at hy
        obtain ⟨b, _, rfl⟩ := Option.map_eq_some_iff.1 hy
        simp [D.cells] at hz
        cases j with
        | zero => simp at hz; subst hz; rfl
        | succ j => simp at hz)
      (fun i y j z hy hz => by
        have hi : i < x.size := by rw [← hl]; exact (List.getElem?_eq_some_iff.1 hy).1
        rw [List.getElem?_map] at hy
        obtain ⟨b, hb, rfl⟩ := Option.map_eq_some_iff.1 hy
        simp [D.cells] at hz
        cases j with
        | zero =>
          rw [add_none]
          simp only [F', Nat.mul_one, Nat.add_zero, Nat.zero_add]
          rw [if_pos ⟨trivial, trivial, hi⟩]
          simp [World.cell?, hnew, hget i hi]
        | succ j => simp at hz)
      (fun i y j z hy hz => by
        rw [List.getElem?_map] at hy
        obtain ⟨b, hb, rfl⟩ := Option.map_eq_some_iff.1 hy
        simp [D.cells] at hz
        cases j with
        | zero => simp at hz; subst hz; simp only [List.getD, hb, Option.getD_some]; exact .int _ _
        | succ j => simp at hz)
    rw [hl] at key
    exact key
theorem newrow_ok {e : TypeId} {ds : List D} {row : Array Value} {fr : Nat × Nat} {cap : Nat} (hS : SR w F L b0 g) (hrun : (execOp a.eval o).run P w = .ok (.value (.slice (some ⟨w.heap.size, 0, none⟩) ds.length cap)) (w.drew.alloc (.cells row e fr)))
    (hcapl : ds.length ≤ cap) (hone : ∀ d ∈ ds, d.one = true) (hrow : ∀ (j : Nat) d, ds[j]? = some d → ∃ x, row[j]? = some x ∧ ∀ F, Rep F d x) : OpOk P a o w F L b0 g ⟨.dat (.lst ds), [], []⟩ := by
  generalize hw' : w.drew.alloc (.cells row e fr) = w' at hrun
  have hheap : w'.heap = w.heap.push (.cells row e fr) := by rw [← hw']; rfl
  have hnew : w'.heap[w.heap.size]? = some (.cells row e fr) := by rw [hheap]; simp
  have hold : ∀ k, k < w.heap.size → w'.heap[k]? = w.heap[k]? := fun k hk => by rw [hheap, Array.getElem?_push, if_neg (by omega)]
  let F' : Mem := fun q => if q.block = w.heap.size ∧ q.spot = none ∧ q.off < ds.length then w'.cell? q else F q
  have hmem : ∀ q u, F' q = some u → w'.cell? q = some u := by
    intro q u hq
    simp only [F'] at hq
    split at hq
    · exact hq
    · have h1 := hS.mem q u hq
      have hlt : q.block < w.heap.size := by
        rcases Nat.lt_or_ge q.block w.heap.size with h2 | h2
        · exact h2
        · rw [noF hS h2] at hq; simp at hq
      rw [World.cell?_of_block (w := w) (hold q.block hlt)]
      exact h1
  have hE : Evo w F none0 w' F' none0 := by
    refine ⟨by rw [hheap]; simp, by rw [← hw']; rfl, by rw [← hw']; rfl, by rw [← hw']; rfl, fun q u hq => ?_, .refl _, fun k hk _ => hold k hk, fun q hq => ?_, fun o' i hi => by simp [none0] at hi⟩
    · simp only [F']
      rw [if_neg]
      · exact hq
      · rintro ⟨h1, _⟩
        rw [noF hS (by omega)] at hq
        simp at hq
    · left
      simp only [F'] at hq
      split at hq
      · rename_i h1; omega
      · exact absurd rfl hq
  refine ⟨_, w', F', L, .inl hrun, (Evo.refl w F L).after hE, hS.after hE hmem, .dat _ _ (?_ : Rep F' _ (.slice (some ⟨w.heap.size, 0, none⟩) ds.length cap))⟩
  have hcell : ∀ (i : Nat) y (j : Nat) z, ds[i]? = some y → y.cells[j]? = some z → j = 0 ∧ z = y := by
    intro i y j z hy hz
    rw [D.cells_one (hone y (List.mem_of_getElem? hy))] at hz
    cases j with
    | zero => simp at hz; exact ⟨rfl, hz.symm⟩
    | succ j => simp at hz
  refine Rep.lst (F := F') ds ⟨w.heap.size, 0, none⟩ cap 1 (fun i _ => (row[i]?).getD Go.undef) hcapl (fun y hy => by rw [D.cells_one (hone y hy)]; rfl)
    (fun i y j z hy hz => by obtain ⟨_, rfl⟩ := hcell i y j z hy hz; exact hone _ (List.mem_of_getElem? hy))
    (fun i y j z hy hz => ?_) (fun i y j z hy hz => ?_)
  · obtain ⟨rfl, rfl⟩ := hcell i y j z hy hz
    have hi : i < ds.length := (List.getElem?_eq_some_iff.1 hy).1
    obtain ⟨x, hx, _⟩ := hrow i _ hy
    rw [add_none]
    simp only [F', Nat.mul_one, Nat.add_zero, Nat.zero_add]
    rw [if_pos ⟨trivial, trivial, hi⟩]
    simp [World.cell?, hnew, hx]
  · obtain ⟨rfl, rfl⟩ := hcell i y j z hy hz
    obtain ⟨x, hx, hr⟩ := hrow i _ hy
    rw [hx]
    exact hr F'
theorem runes_ok {s d e : TypeId} {x : ByteArray} {v : Value} (hS : SR w F L b0 g) (hex : execOp a.eval o = (do pure (.value (← convert s d v)))) (hv : v = .string x) (hs : P.underlying s = some .string) (hd : P.underlying d = some (.slice e)) (he : P.underlying e = some (.int .i32)) (hx : x.size ≤ 70368744177664) :
    OpOk P a o w F L b0 g ⟨.dat (.lst (runesD x)), [], []⟩ := by
  subst hv
  have hsz := size_runesFrom x x.size 0 #[]
  simp at hsz
  have hrun := run_runes_of_string (P := P) w s d e x hs hd he (by omega)
  have hlen : (runesD x).length = (Conv.runesFrom x x.size 0 #[]).size := by simp [runesD]
  have hint : ∀ v ∈ (Conv.runesFrom x x.size 0 #[]).toList, ∃ n, v = .int .i32 n := runesFrom_int x x.size 0 #[] (fun v hv => by simp at hv)
  refine newrow_ok (e := e) (ds := runesD x) (row := Conv.runesFrom x x.size 0 #[] ++ Array.replicate (grownCap w (Conv.runesFrom x x.size 0 #[]).size 0 e - (Conv.runesFrom x x.size 0 #[]).size) (.int .i32 0)) (fr := (0, 0)) (cap := grownCap w (Conv.runesFrom x x.size 0 #[]).size 0 e) hS (by rw [hex, hlen]; simp [hrun]) (by rw [hlen]; exact grownCap_ge w _ 0 e) (fun y hy => ?_) (fun j y hy => ?_)
  · obtain ⟨v, hv, rfl⟩ := List.mem_map.1 hy
    obtain ⟨n, rfl⟩ := hint v hv
    rfl
  · unfold runesD at hy
    rw [List.getElem?_map] at hy
    obtain ⟨v, hv, rfl⟩ := Option.map_eq_some_iff.1 hy
    obtain ⟨n, rfl⟩ := hint v (List.mem_of_getElem? hv)
    have hj : j < (Conv.runesFrom x x.size 0 #[]).size := by have := (List.getElem?_eq_some_iff.1 hv).1; simpa using this
    refine ⟨.int .i32 n, ?_, fun F => .int _ _⟩
    rw [Array.getElem?_append_left hj]
    simpa using hv
theorem run_forIn_runes {f : Value → ByteArray → Sem (ForInStep ByteArray)} (hf : ∀ (n : Int) (r : ByteArray), (f (.int .i32 n) r).run P w = .ok (.yield (r ++ Utf8.encode n)) w) :
    ∀ (ns : List Int) (s : ByteArray), (forIn (ns.map (Value.int .i32)) s f).run P w = .ok (ns.foldl (fun r n => r ++ Utf8.encode n) s) w := by
  have _s : Sig := inferInstance
  intro ns
  induction ns with
  | nil => intro s; simp [Sem.run_pure]
  | cons n ns ih =>
    intro s
    simp only [List.map_cons, List.forIn_cons, Sem.run_bind, hf, Result.andThen, List.foldl_cons]
    exact ih _
theorem run_runesToString (ad : Addr) (len cap : Nat) (ns : List Int) (h : (loadCells ad len).run P w = .ok (ns.map (Value.int .i32)).toArray w) :
    (Conv.runesToString (.slice (some ad) len cap)).run P w = .ok (.string (encAll ns)) w := by
  have _s : Sig := inferInstance
  unfold Conv.runesToString
  simp only [Sem.run_bind, h, Result.andThen, List.forIn_toArray]
  rw [run_forIn_runes (by intro n r; simp [Sem.run_pure])]
  simp [Sem.run_pure, encAll]
theorem convert_ok {s d : TypeId} {x : Operand} {r : Res} (hop : o.op = .convert s d x) (h : (evalU tm x).bind (opConvert P g s d) = some r) (hS : SR w F L b0 g) (hT : TR F L tm a.tmps) : OpOk P a o w F L b0 g r := by
  replace h := Option.bind_eq_some_iff.1 h
  obtain ⟨u, hu, h⟩ := h
  have hr := eval_rep hT hu
  unfold opConvert at h
  split at h
  · rename_i e hs hd
    split at h
    · rename_i s' he
      obtain rfl := Option.some.inj h
      have hv : a.eval x = .string s' := by
        generalize a.eval x = v at hr
        cases hr with
        | dat _ _ hr => cases hr; rfl
      exact bytes_ok hS ((by simp [execOp, hop]) : (execOp a.eval o) = (do pure (.value (← convert s d (a.eval x))))) hv hs hd he
    · rename_i s' he
      split at h
      · rename_i hsz
        obtain rfl := Option.some.inj h
        have hv : a.eval x = .string s' := by
          generalize a.eval x = v at hr
          cases hr with
          | dat _ _ hr => cases hr; rfl
        exact runes_ok hS ((by simp [execOp, hop]) : (execOp a.eval o) = (do pure (.value (← convert s d (a.eval x))))) hv hs hd he hsz
      · simp at h
    · simp at h
  · rename_i e hs hd
    split at h
    · rename_i he
      have hrun : ∀ (ao : Option Addr) (n c : Nat) (b : ByteArray), a.eval x = .slice ao n c → (Conv.bytesToString (.slice ao n c)).run P w = .ok (.string b) w → (execOp a.eval o).run P w = .ok (.value (.string b)) w := by
        intro ao n c b hv hb
        cases ao <;> simp [execOp, hop, convert, run_underlying hs, run_underlying hd, run_underlying he, hv, hb]
      split at h
      · obtain rfl := Option.some.inj h
        exact .quiet hS rfl (hrun none 0 0 _ (nil_inv (dat_inv hr)) (by simp [Conv.bytesToString])) (.dat _ _ (.str _))
      · rename_i l
        obtain ⟨b, hb, rfl⟩ := Option.map_eq_some_iff.1 h
        have hrl := dat_inv hr
        generalize hv : a.eval x = v at hrl
        cases hrl with
        | lst _ ad c sz val hc hsz ho hF hR =>
          refine .quiet hS rfl (hrun _ _ _ _ hv (toStr_ok (F := F) hb rfl (fun j => val j 0) (fun j y hy => ?_))) (.dat _ _ (.str _))
          obtain ⟨m, rfl, _⟩ := (bytesOfD_some hb).2 j y hy
          have h1 : sz = 1 := by have := hsz _ (List.mem_of_getElem? hy); simpa [D.cells] using this.symm
          subst h1
          have h2 := hF j _ 0 (.int .u8 m) hy rfl
          rw [Nat.mul_one, Nat.add_zero] at h2
          exact ⟨hS.mem _ _ h2, hR j _ 0 _ hy rfl⟩
      · rename_i x' gn off n
        split at h
        · rename_i ob hg
          split at h
          · rename_i hcond
            obtain ⟨hgn, hes, hlen⟩ := hcond
            obtain ⟨b, hb, rfl⟩ := Option.map_eq_some_iff.1 h
            obtain ⟨ds, hds, hb⟩ := Option.bind_eq_some_iff.1 hb
            obtain ⟨inf, ad, c, hL, hig, hie, hv, hnc, had⟩ := own_now hS hg hgn hr
            obtain ⟨vs, hvl, hc, hR, ho⟩ := hS.cells hg hL (by omega) off n hlen
            have hdl : ds.length = n := by rw [(mapM_some hds).1]; simp; omega
            refine .quiet hS rfl (hrun _ _ _ _ hv (toStr_ok (F := F) hb hdl (fun j => vs.getD j Go.undef) (fun j y hy => ?_))) (.dat _ _ (.str _))
            obtain ⟨u', hu', hd'⟩ := mapM_back hds hy
            have hu2 : u' = .dat y := by cases u' <;> simp [asDat] at hd'; rw [hd']
            subst hu2
            have hj : j < n := by rw [← hdl]; exact (List.getElem?_eq_some_iff.1 hy).1
            have hvj : vs[j]? = some vs[j] := List.getElem?_eq_getElem (by omega)
            obtain ⟨rfl, _⟩ := had (by omega)
            have hgd : vs.getD j Go.undef = vs[j] := by simp [List.getD_eq_getElem?_getD, hvj]
            rw [hgd, add_none, hie, hes, Nat.mul_one]
            exact ⟨hc j _ hvj, dat_inv (hR j _ _ hu' hvj)⟩
          · simp at h
        · simp at h
      · simp at h
    · rename_i he
      split at h
      · rename_i l
        obtain ⟨ns, hns, rfl⟩ := Option.map_eq_some_iff.1 h
        have hl := runesOfD_some hns
        have hrl := dat_inv hr
        generalize hv : a.eval x = v at hrl
        cases hrl with
        | lst _ ad c sz val hc hsz ho hF hR =>
          have hload := run_loadCells_list (P := P) w ad (ns.map (Value.int .i32)) (fun j v hj => by
            rw [List.getElem?_map] at hj
            obtain ⟨n, hn, rfl⟩ := Option.map_eq_some_iff.1 hj
            have hlj : l[j]? = some (D.int .i32 n) := by rw [hl, List.getElem?_map, hn]; rfl
            have h1 : sz = 1 := by have := hsz _ (List.mem_of_getElem? hlj); simpa [D.cells] using this.symm
            subst h1
            have h2 := hF j _ 0 _ hlj rfl
            have h3 := hR j _ 0 _ hlj rfl
            rw [Nat.mul_one, Nat.add_zero] at h2
            generalize val j 0 = z at h2 h3
            cases h3
            exact hS.mem _ _ h2)
          have hlen : (ns.map (Value.int .i32)).length = l.length := by rw [hl]; simp
          rw [hlen] at hload
          refine .quiet hS rfl (v := .string (encAll ns)) ?_ (.dat _ _ (.str _))
          simp [execOp, hop, convert, run_underlying hs, run_underlying hd, run_underlying he, hv, run_runesToString ad l.length c ns hload]
      · simp at h
    · simp at h
  · rename_i e' e hs hd
    split at h
    · rename_i x' gn off n hbe he
      split at h
      · rename_i ob hg
        split at h
        · rename_i hgn0
          obtain ⟨hgn, he0⟩ := hgn0
          obtain rfl := Option.some.inj h
          obtain rfl := Nat.eq_of_beq_eq_true hbe
          obtain rfl : e' = e := by rw [hs] at hd; injection Option.some.inj hd
          obtain ⟨inf, ad, c, hL, hig, hie, hv, hnc, had⟩ := own_now hS hg hgn hr
          obtain ⟨rfl, _⟩ := had (by omega)
          obtain ⟨i', arr, hL', r1, r2, r3, r4, hh0, r5, hcs, hfr⟩ := hS.obj x' ob hg
          rw [hL] at hL'
          obtain rfl := Option.some.inj hL'
          have hh := hh0.row he0
          obtain ⟨fr, hfr0, hheap⟩ := id hh
          have hfree : RowAt (w.freeze ⟨inf.blk, arr.size, none⟩ 1) inf.blk arr ob.ty := by
            refine ⟨if fr.1 == fr.2 then (arr.size, arr.size + 1) else (min fr.1 arr.size, max fr.2 (arr.size + 1)), ?_, ?_⟩
            · rcases hfr0 with rfl | hfr0
              · exact .inr (by simp)
              · refine .inr ?_
                split
                · simp
                · simp only; omega
            · unfold World.freeze
              simp only [Nat.one_ne_zero, if_false]
              rw [Array.getElem?_modify]
              simp [hheap]
          have hrun : (execOp a.eval o).run P w = .ok (.value (.slice (some ⟨inf.blk, off * inf.esz, none⟩) (n + 1) c)) (w.freeze ⟨inf.blk, arr.size, none⟩ 1) := by
            have hsh : w.shape? inf.blk = some (ob.ty, arr.size) := by simp [World.shape?, hheap]
            simp [execOp, hop, convert, run_underlying hs, run_underlying he, hv, markStringish, shape, freeze, Sem.run, hsh]
          obtain ⟨hS', hE⟩ := hS.upd (w' := w.freeze ⟨inf.blk, arr.size, none⟩ 1) x' ob inf arr (by simp [World.freeze]) rfl rfl rfl
            (fun k _ hk => by unfold World.freeze; simp only [Nat.one_ne_zero, if_false]; rw [Array.getElem?_modify]; simp [Ne.symm hk])
            (.inl ⟨he0, hfree⟩) (fun h => absurd h (by omega)) r3 r1 r2 r4 r5 (fun off v hF => by have := hS.mem _ _ hF; rw [hh.cell] at this; exact this) hfr (.inl ⟨inf, hL, rfl, .inl rfl⟩)
            (fun j u hu => by obtain ⟨h1, v, hv', hr'⟩ := hcs j u hu; exact ⟨h1, v, hv', .inl hr'⟩)
          exact ⟨_, _, F, _, .inl hrun, hE, hS', hv ▸ hr.mono (.refl _) hE.layLe⟩
        · simp at h
      · simp at h
    · simp at h
  · simp at h
theorem clear_ok {t : TypeId} {c : Call} {x : Operand} {r : Res} (hop : o.op = .call c) (hcal : c.callee = .builtin .clear) (hargs : c.args.toList = [x]) (htys : c.argTypes.toList = [t])
    (h : (evalU tm x).bind (opClear P g t) = some r) (hS : SR w F L b0 g) (hT : TR F L tm a.tmps) : OpOk P a o w F L b0 g r := by
  replace h := Option.bind_eq_some_iff.1 h
  obtain ⟨u, hu, h⟩ := h
  have hr := eval_rep hT hu
  have hca : c.args = #[x] := by rw [← Array.toArray_toList (xs := c.args), hargs]
  have hct : c.argTypes = #[t] := by rw [← Array.toArray_toList (xs := c.argTypes), htys]
  unfold opClear at h
  split at h
  · rename_i e x' gn off n hus
    split at h
    · rename_i ob sz z hg hsz hz
      split at h
      · rename_i hcond
        obtain ⟨hgn, hes, h0, hsn, hzl, hlen⟩ := hcond
        obtain rfl := Option.some.inj h
        obtain ⟨inf, ad, cp, hL, hig, hie, hv, hnc, had⟩ := own_now hS hg hgn hr
        obtain ⟨i, zv, hi, hzv, hzm⟩ := zeroT_info hz
        by_cases hn : n = 0
        · subst hn
          have hsame : (fun y => if y = x' then some { ob with cells := splice ob.cells (off * sz) (repeatD z 0) } else g y) = g := by
            funext y
            by_cases hy : y = x'
            · subst hy
              have : splice ob.cells (off * sz) (repeatD z 0) = ob.cells := by simp [splice, repeatD]
              simp only [if_true, this]
              exact hg.symm
            · simp [hy]
          refine ⟨Go.undef, w, F, L, .inl ?_, .refl _ _ _, ?_, .undef⟩
          · simp [execOp, hop, resolve, hcal, hca, hct, invoke, builtin, Builtin.clear_, run_underlying hus, hv, Go.undef]
          · show SR w F L b0 (fun y => if y = x' then some { ob with cells := splice ob.cells (off * sz) (repeatD z 0) } else g y)
            rw [hsame]
            exact hS
        · obtain ⟨rfl, hcap⟩ := had (by omega)
          have hzsz : zv.cells.size = sz := by rw [← hzl, (mapM_some hzm).1]; simp
          have hrl := repeatD_length z n
          have hlen' : off * sz + n * sz ≤ ob.cells.length := by rw [← Nat.add_mul]; exact hlen
          obtain ⟨w', L', hrun, hE, hS'⟩ := hS.write (P := P) hg hL (by rw [hes]; exact h0) hsn (off * sz) (repeatD z n) (Builtin.zeroCells zv.cells n).toList (by simp [zeroCells_size, hzsz, hrl, hzl]) (by rw [hrl, hzl]; exact hlen') (fun j u hu => by
            obtain ⟨ho, v, hv', hrv⟩ := zeros_ok hzm (by omega) n (n * zv.cells.size) (by rw [hzsz, hzl]; exact Nat.le_refl _) F L j u hu
            exact ⟨ho, v, by unfold Builtin.zeroCells; rw [Array.getElem?_toList]; exact hv', hrv⟩)
          refine ⟨Go.undef, w', F, L', .inl ?_, hE, hS', .undef⟩
          have hz' : (zeroValue e).run P w = .ok zv w := by simp [zeroValue, typeInfo, hi, hzv]
          obtain ⟨k, rfl⟩ : ∃ k, n = k + 1 := ⟨n - 1, by omega⟩
          rw [hie, hes] at hv
          simp [execOp, hop, resolve, hcal, hca, hct, invoke, builtin, Builtin.clear_, run_underlying hus, hv, Go.undef, hz', hrun]
      · simp at h
    · simp at h
  · simp at h
theorem len_val {u : U} {v : Value} {n : Nat} (h : lenU u = some n) (hr : RepU F L u v) : (isTextU u = false ∧ ∃ b c, v = .slice b n c) ∨ ∃ s, v = .string s ∧ s.size = n := by
  cases u with
  | dat d =>
    cases d with
    | nil => simp [lenU] at h; subst h; cases hr with | dat _ _ hr => cases hr; exact .inl ⟨rfl, _, _, rfl⟩
    | lst l => simp [lenU] at h; subst h; cases hr with | dat _ _ hr => cases hr; exact .inl ⟨rfl, _, _, rfl⟩
    | str s => simp [lenU] at h; subst h; cases hr with | dat _ _ hr => cases hr; exact .inr ⟨_, rfl, rfl⟩
    | _ => simp [lenU] at h
  | own x gn off n' =>
    simp [lenU] at h
    subst h
    cases hr
    · exact .inl ⟨rfl, _, _, rfl⟩
    · exact .inl ⟨rfl, _, _, rfl⟩
    · exact .inl ⟨rfl, _, _, rfl⟩
  | _ => simp [lenU] at h
theorem take_val {u : U} {v : Value} {n c : Nat} (h : lenU u = some n) (hc : c ≤ n) (hr : RepU F L u v) : ∃ v', RepU F L (takeU c u) v' ∧ ∀ sz, Builtin.firstCells sz c v = Builtin.firstCells sz c v' := by
  cases u with
  | dat d =>
    cases hr with
    | dat _ _ hr =>
      cases d with
      | nil => exact ⟨v, .dat _ _ hr, fun _ => rfl⟩
      | lst l =>
        simp [lenU] at h
        subst h
        cases hr with
        | lst _ a cp sz val hcl hsz ho hF hR =>
          have hget : ∀ (i : Nat) x, (l.take c)[i]? = some x → l[i]? = some x := by
            intro i x hx
            rw [List.getElem?_take] at hx
            split at hx
            · exact hx
            · simp at hx
          have hll : (l.take c).length = c := by simp; omega
          refine ⟨.slice (some a) (l.take c).length cp, .dat _ _ (.lst (l.take c) a cp sz val (by rw [hll]; omega) (fun x hx => hsz x (List.mem_of_mem_take hx)) (fun i x j y hx hy => ho i x j y (hget i x hx) hy) (fun i x j y hx hy => hF i x j y (hget i x hx) hy) (fun i x j y hx hy => hR i x j y (hget i x hx) hy)), fun _ => rfl⟩
      | str s =>
        cases hr with
        | str =>
          refine ⟨.string (s.extract 0 c), .dat _ _ (.str _), fun sz => ?_⟩
          have : (s.extract 0 c).extract 0 c = s.extract 0 c := by
            simp [ByteArray.extract_extract]
          simp only [Builtin.firstCells, this]
      | _ => simp [lenU] at h
  | own x gn off n' =>
    simp [lenU] at h
    subst h
    cases hr with
    | own _ _ _ cp i hL hn hcp => exact ⟨_, .own x off c cp i hL (by omega) hcp, fun _ => rfl⟩
    | ownEnd _ _ i a hL => have : c = 0 := by omega
                           subst this; exact ⟨_, .ownEnd x off i a hL, fun _ => rfl⟩
    | ownOld _ g' _ _ i a cp hL hg => exact ⟨_, .ownOld x gn off c i a cp hL hg, fun _ => rfl⟩
  | _ => simp [lenU] at h
theorem copy_ok {t tx : TypeId} {c : Call} {x y : Operand} {r : Res} (hop : o.op = .call c) (hcal : c.callee = .builtin .copy) (hargs : c.args.toList = [x, y]) (htys : c.argTypes.toList = [t, tx])
    (h : (evalU tm x).bind (fun u => (evalU tm y).bind (opCopy P g t tx u)) = some r) (hS : SR w F L b0 g) (hT : TR F L tm a.tmps) : OpOk P a o w F L b0 g r := by
  replace h := Option.bind_eq_some_iff.1 h
  obtain ⟨u, hu, h⟩ := h
  replace h := Option.bind_eq_some_iff.1 h
  obtain ⟨s, hs, h⟩ := h
  have hru := eval_rep hT hu
  have hrs := eval_rep hT hs
  have hca : c.args = #[x, y] := by rw [← Array.toArray_toList (xs := c.args), hargs]
  have hct : c.argTypes = #[t, tx] := by rw [← Array.toArray_toList (xs := c.argTypes), htys]
  unfold opCopy at h
  split at h
  · rename_i hrow
    simp only [Bool.and_eq_true, Bool.not_eq_true'] at hrow
    obtain ⟨hrow, htext⟩ := hrow
    split at h
    · rename_i e n m hus hn hm
      split at h
      · rename_i sz hsz
        obtain ⟨bu, cu, hvu⟩ : ∃ b c, a.eval x = .slice b n c := by
          rcases len_val hn hru with ⟨_, h⟩ | ⟨s', h, _⟩
          · exact h
          · exfalso
            generalize a.eval x = v at hru h
            subst h
            cases hru with
            | dat d _ hd => cases hd <;> first | (simp [isTextU] at htext; done) | simp [lenU] at hn
            | junk => simp [lenU] at hn
        have hlen : (Builtin.lenOf (a.eval y)).run P w = .ok m w := by
          rcases len_val hm hrs with ⟨_, b, cp, h⟩ | ⟨s', h, hsz'⟩
          · rw [h]; rfl
          · rw [h]; simp [Builtin.lenOf, hsz']
        have hmin : Nat.min m n = min m n := rfl
        have hsize := run_sizeOf hsz w
        split at h
        · rename_i h0
          obtain rfl := Option.some.inj h
          have hf : (Builtin.firstCells sz 0 (a.eval y)).run P w = .ok #[] w := by
            rcases len_val hm hrs with ⟨_, b, cp, h⟩ | ⟨s', h, hsz'⟩
            · rw [h]
              cases b with
              | none => rfl
              | some ad => exact run_firstCells_some w sz 0 ad m cp [] (by simp) (fun j v h => by simp at h)
            · rw [h]
              simp [Builtin.firstCells]
          refine .quiet hS rfl (v := .int .i64 0) ?_ (.dat _ _ (.int ..))
          cases bu with
          | none => simp [execOp, hop, resolve, hcal, hca, hct, invoke, builtin, Builtin.copy_, run_underlying hus, hvu, hlen, hmin, h0, hsize, hf, goInt]
          | some ad => simp [execOp, hop, resolve, hcal, hca, hct, invoke, builtin, Builtin.copy_, run_underlying hus, hvu, hlen, hmin, h0, hsize, hf, goInt, storeCells]
        · rename_i h0
          split at h
          · rename_i x' gn off n'
            split at h
            · rename_i ob xs c' rd hg hsrc
              split at h
              · rename_i hcond
                obtain ⟨hgn, hes, hsz0, hsn, hc', hfit⟩ := hcond
                obtain rfl := Option.some.inj h
                obtain ⟨v', hrv', hfirst⟩ := take_val hm (Nat.min_le_left m n) hrs
                obtain ⟨news, hnl, hxl, hxx, hsrcv⟩ := src_ok hsrc hsz0 hS hrv' hrow
                obtain ⟨inf, ad, cp, hL, hig, hie, hv, hnc, had⟩ := own_now hS hg hgn hru
                have hnn : n' = n := by simp [lenU] at hn; exact hn
                subst hnn
                obtain ⟨rfl, hcap⟩ := had (by omega)
                obtain ⟨w', L', hrun, hE, hS'⟩ := hS.write (P := P) hg hL (by rw [hes]; exact hsz0) hsn (off * sz) xs news (by rw [hnl]) hfit hxx
                have hfr : (Builtin.firstCells sz (min m n') (a.eval y)).run P w = .ok news.toArray w := by
                  rw [hfirst, ← hc']
                  exact hsrcv.cells
                refine ⟨.int .i64 (min m n'), w', F, L', .inl ?_, hE, hS', .dat _ _ (.int ..)⟩
                rw [hie, hes] at hv
                simp [execOp, hop, resolve, hcal, hca, hct, invoke, builtin, Builtin.copy_, run_underlying hus, hv, hlen, hmin, hsize, hfr, goInt, hrun]
                omega
              · simp at h
            · simp at h
          · simp at h
      · simp at h
    · simp at h
  · simp at h
theorem bool_inv {b : Bool} {v : Value} (h : Rep F (.bool b) v) : v = .bool b := by cases h; rfl
theorem opStep_ok {id : Nat} {r : Res} (h : opStep P g id tm o = some r) (hS : SR w F L b0 g) (hT : TR F L tm a.tmps) (hid : g id = none) (hb : b0 ≤ w.heap.size) : OpOk P a o w F L b0 g r := by
  unfold opStep at h
  split at h
  · rename_i x hop
    obtain ⟨u, hu, rfl⟩ := Option.map_eq_some_iff.1 h
    exact .quiet hS rfl (v := a.eval x) (by simp [execOp, hop]) (eval_rep hT hu)
  · rename_i x hop
    obtain ⟨u, hu, rfl⟩ := Option.map_eq_some_iff.1 h
    exact .quiet hS rfl (v := a.eval x) (by simp [execOp, hop]) (eval_rep hT hu)
  · rename_i c x y hop
    split at h
    · rename_i hc
      obtain ⟨u, hu, rfl⟩ := Option.map_eq_some_iff.1 h
      have hcv : a.eval c = .bool true := bool_inv (dat_inv (eval_rep hT hc))
      exact .quiet hS rfl (v := a.eval x) (by simp [execOp, hop, hcv, asBool]) (eval_rep hT hu)
    · rename_i hc
      obtain ⟨u, hu, rfl⟩ := Option.map_eq_some_iff.1 h
      have hcv : a.eval c = .bool false := bool_inv (dat_inv (eval_rep hT hc))
      exact .quiet hS rfl (v := a.eval y) (by simp [execOp, hop, hcv, asBool]) (eval_rep hT hu)
    · simp at h
  · rename_i t hop
    exact alloc_ok hop h hS hid hb
  · rename_i t x hop
    exact box_ok hop h hS hT hid hb
  · rename_i t ps hop
    exact build_ok hop h hS hT
  · rename_i t n ps hop
    exact buildSlice_ok hop h hS hT hid hb
  · rename_i t x hop
    exact load_ok hop h hS hT
  · rename_i t x y hop
    exact store_ok hop h hS hT
  · rename_i x hop
    split at h
    · rename_i x' gn p hx
      obtain rfl := Option.some.inj h
      have hr := eval_rep hT hx
      obtain ⟨ad, hv⟩ := ptr_inv hr
      exact .quiet hS rfl (v := a.eval x) (by simp [execOp, hop, hv]) hr
    · rename_i cs hx
      obtain rfl := Option.some.inj h
      have hr := eval_rep hT hx
      obtain ⟨ad, hv⟩ := fp_inv (dat_inv hr)
      exact .quiet hS rfl (v := a.eval x) (by simp [execOp, hop, hv]) hr
    · rename_i f cs hx
      obtain rfl := Option.some.inj h
      have hr := eval_rep hT hx
      have hv : ∃ vs, a.eval x = .func (.func f) #[] vs := by
        generalize a.eval x = v at hr
        cases dat_inv hr with
        | fn _ _ vs _ _ => exact ⟨_, rfl⟩
      obtain ⟨vs, hv⟩ := hv
      exact .quiet hS rfl (v := a.eval x) (by simp [execOp, hop, hv]) hr
    · rename_i f cs hx
      obtain rfl := Option.some.inj h
      have hr := eval_rep hT hx
      have hv : ∃ vs, a.eval x = .func (.func f) #[] vs := by
        generalize a.eval x = v at hr
        cases hr with
        | fn _ _ vs _ _ => exact ⟨_, rfl⟩
      obtain ⟨vs, hv⟩ := hv
      exact .quiet hS rfl (v := a.eval x) (by simp [execOp, hop, hv]) hr
    · simp at h
  · rename_i s x f hop
    exact fieldAddr_ok hop h hS hT
  · rename_i t x f hop
    exact field_ok hop h hS hT
  · rename_i t x y hop
    exact indexAddr_ok hop h hS hT
  · rename_i t x y hop
    split at h
    · rename_i r' hp
      obtain rfl := Option.some.inj h
      exact opPure_ok hp hS hT
    · exact index_ok hop h hS hT
  · rename_i t x lo hi mx hop
    split at h
    · rename_i r' hp
      obtain rfl := Option.some.inj h
      exact opPure_ok hp hS hT
    · exact slice_ok hop h hS hT
  · rename_i x i hop
    split at h
    · rename_i l hx
      obtain ⟨u, hu, rfl⟩ := Option.map_eq_some_iff.1 h
      have hr := eval_rep hT hx
      generalize hv : a.eval x = v at hr
      cases hr with
      | tup _ vs hl hR =>
        have hlt : i < vs.length := by rw [hl]; exact (List.getElem?_eq_some_iff.1 hu).1
        exact .quiet hS rfl (v := vs[i]) (by simp [execOp, hop, hv, Instr.extract, hlt]) (hR i u _ hu (List.getElem?_eq_getElem hlt))
    · simp at h
  · rename_i f first caps hop
    split at h
    · rename_i hf
      obtain ⟨l, hl, rfl⟩ := Option.map_eq_some_iff.1 h
      have hf' : first = #[] := by simpa using hf
      subst hf'
      refine .quiet hS rfl (v := .func (.func f) #[] (caps.toList.map a.eval).toArray) ?_ (.fn f l _ (by rw [List.length_map]; exact (mapM_some hl).1.symm) (fun i u v hu hv => ?_))
      · have : (caps.toList.map a.eval).toArray = caps.map a.eval := by rw [← Array.toList_map]
        rw [this]
        simp [execOp, hop, Instr.makeFunc]
      · obtain ⟨x, hx, he⟩ := mapM_back hl hu
        rw [List.getElem?_map, hx] at hv
        simp at hv
        subst hv
        exact eval_rep hT he
    · simp at h
  · rename_i t x y hop
    exact makeSlice_ok hop h hS hT hid hb
  · rename_i t hop
    exact makeMap_ok hop h hS hid hb
  · rename_i t x y ok hop
    split at h
    · rename_i r' hp
      obtain rfl := Option.some.inj h
      exact opPure_ok hp hS hT
    · exact lookup_ok hop h hS hT
  · rename_i t m k x hop
    exact mapUpdate_ok (.inl hop) h hS hT
  · rename_i t m k x hop
    exact mapUpdate_ok (.inr hop) h hS hT
  · rename_i t x y t2 hop
    split at h
    · rename_i r' hp
      obtain rfl := Option.some.inj h
      exact opPure_ok hp hS hT
    · exact eql_ok (neg := false) hop h hS hT
  · rename_i t x y t2 hop
    split at h
    · rename_i r' hp
      obtain rfl := Option.some.inj h
      exact opPure_ok hp hS hT
    · exact eql_ok (neg := true) hop h hS hT
  · rename_i s d x hop
    split at h
    · rename_i r' hp
      obtain rfl := Option.some.inj h
      exact opPure_ok hp hS hT
    · exact convert_ok hop h hS hT
  · rename_i c hop
    split at h
    · rename_i s x t tx hcal hargs htys
      exact append_ok hop hcal hargs htys h hS hT hid hb
    · rename_i x t hcal hargs htys
      split at h
      · rename_i r' hp
        obtain rfl := Option.some.inj h
        exact opPure_ok hp hS hT
      · exact lenG_ok hop hcal hargs htys h hS hT
    · rename_i d t hcal hargs htys
      exact clear_ok hop hcal hargs htys h hS hT
    · rename_i d s t tx hcal hargs htys
      exact copy_ok hop hcal hargs htys h hS hT
    · exact opPure_ok h hS hT
  · exact opPure_ok h hS hT
end
end Go.Proofs.YtjofhegodknmaaaGreat.V
namespace Go.Proofs.YtjofhegodknmaaaGreat.V
open Go
theorem mapM_local {α β : Type} {f f' : α → Option β} : ∀ {l : List α} {r : List β}, l.mapM f = some r → (∀ x ∈ l, ∀ y ∈ r, f x = some y → f' x = some y) → l.mapM f' = some r := by
  intro l
  induction l with
  | nil => intro r h _; simpa using h
  | cons a l ih =>
    intro r h hf
    rw [List.mapM_cons] at h ⊢
    cases ha : f a with
    | none => simp [ha] at h
    | some b =>
      cases hl : l.mapM f with
      | none => simp [ha, hl] at h
      | some r' =>
        simp [ha, hl] at h
        subst h
        rw [hf a (by simp) b (by simp) ha, ih hl (fun x hx y hy h => hf x (by simp [hx]) y (by simp [hy]) h)]
        simp
theorem toD_local {g g' : Nat → Option Obj} : ∀ (k : Nat) {u : U} {r : D × List Nat}, toD g k u = some r → (∀ x ∈ r.2, g' x = g x) → toD g' k u = some r := by
  intro k
  induction k with
  | zero => intro u r h; simp [toD] at h
  | succ k ih =>
    intro u r h hg
    have hm : ∀ {l : List U} {cs : List (D × List Nat)}, l.mapM (toD g k) = some cs → (∀ x ∈ cs.flatMap (·.2), g' x = g x) → l.mapM (toD g' k) = some cs := by
      intro l cs h hx
      exact mapM_local h fun x _ y hy e => ih e fun z hz => hx z (List.mem_flatMap.2 ⟨y, hy, hz⟩)
    cases u with
    | dat d => exact h
    | own o gn off n =>
      simp only [toD] at h ⊢
      split at h
      · rename_i ob hob
        split at h
        · rename_i hc
          split at h
          · rename_i cs hcs
            obtain rfl := Option.some.inj h
            simp only [hg o (by simp), hob, if_pos hc, hm hcs (fun x hx => hg x (List.mem_cons_of_mem _ hx))]
          · simp at h
        · simp at h
      · simp at h
    | ptr o gn p =>
      simp only [toD] at h ⊢
      split at h
      · rename_i ob hob
        split at h
        · rename_i hc
          split at h
          · rename_i cs hcs
            obtain rfl := Option.some.inj h
            simp only [hg o (by simp), hob, if_pos hc, hm hcs (fun x hx => hg x (List.mem_cons_of_mem _ hx))]
          · simp at h
        · simp at h
      · simp at h
    | agg cs =>
      simp only [toD] at h ⊢
      split at h
      · rename_i ds hds
        obtain rfl := Option.some.inj h
        simp only [hm hds hg]
      · simp at h
    | fn f caps =>
      simp only [toD] at h ⊢
      split at h
      · rename_i ds hds
        obtain rfl := Option.some.inj h
        simp only [hm hds hg]
      · simp at h
    | tup l => simp [toD] at h
    | undef => simp [toD] at h
    | junk => simp [toD] at h
    | map o gn => simp [toD] at h
section
variable {P : Program} {g g' : Nat → Option Obj} {id : Nat} {tm : List U} {r : Res}
theorem opLoad_local {t : TypeId} {u : U} (h : opLoad P g t u = some r) (hg : ∀ x ∈ r.rd, g' x = g x) : opLoad P g' t u = some r := by
  cases u with
  | ptr o gn p =>
    simp only [opLoad] at h ⊢
    split at h
    · rename_i ob n a h1 h2 h3
      split at h
      · rename_i hc
        split at h
        · rename_i ha
          obtain rfl := Option.some.inj h
          simp only [hg o (by simp), h1, h2, h3, if_pos hc, if_pos ha]
        · rename_i ha
          obtain ⟨u, hu, rfl⟩ := Option.map_eq_some_iff.1 h
          simp only [hg o (by simp), h1, h2, h3, if_pos hc, if_neg ha, hu, Option.map_some]
      · simp at h
    · simp at h
  | dat d => cases d <;> exact h
  | _ => exact h
theorem opStore_local {t : TypeId} {a x : U} (h : opStore P g t a x = some r) (hg : ∀ y ∈ r.rd, g' y = g y) : opStore P g' t a x = some r := by
  cases a with
  | ptr o gn p =>
    simp only [opStore] at h ⊢
    split at h
    · rename_i ob n h1 h2
      split at h
      · rename_i hc
        obtain rfl := Option.some.inj h
        simp only [hg o (by simp), h1, h2, if_pos hc]
      · simp at h
    · simp at h
  | _ => exact h
theorem opIndexAddr_local {t : TypeId} {x ix : U} (h : opIndexAddr P g t x ix = some r) (hg : ∀ y ∈ r.rd, g' y = g y) : opIndexAddr P g' t x ix = some r := by
  unfold opIndexAddr at h ⊢
  split at h
  · rename_i hP
    split at h
    · rename_i ob sz h1 h2
      split at h
      · rename_i hc
        obtain rfl := Option.some.inj h
        have hg0 := hg _ (List.mem_singleton.2 rfl)
        simp only [hP, hg0, h1, h2]
        rw [if_pos hc]
      · simp at h
    · simp at h
  · exact h
  · exact h
  · exact h
  · simp at h
theorem opSlice_local {t : TypeId} {x : U} {lo hi mx : Option Operand} (h : opSlice P g tm t x lo hi mx = some r) (hg : ∀ y ∈ r.rd, g' y = g y) : opSlice P g' tm t x lo hi mx = some r := by
  unfold opSlice at h ⊢
  split at h
  · rename_i l hh e hl hhi hP
    split at h
    · exact h
    · exact h
    · split at h
      · rename_i a b ob sz h1 h2 h3 h4
        split at h
        · rename_i hc
          obtain rfl := Option.some.inj h
          simp only [h1, h2, h3, h4, hg _ (List.mem_singleton.2 rfl), if_pos hc]
        · simp at h
      · simp at h
    · simp at h
  · simp at h
theorem srcCells_local {esz : Nat} {x : U} {s : List U × Nat × List Nat} (h : srcCells g esz x = some s) (hg : ∀ y ∈ s.2.2, g' y = g y) : srcCells g' esz x = some s := by
  cases x with
  | own o gn off n =>
    simp only [srcCells] at h ⊢
    split at h
    · rename_i ob h1
      split at h
      · rename_i hc
        obtain rfl := Option.some.inj h
        simp only [hg _ (List.mem_singleton.2 rfl), h1, if_pos hc]
      · simp at h
    · simp at h
  | dat d => cases d <;> exact h
  | _ => exact h
theorem opAppend_local {t tx : TypeId} {s x : U} (h : opAppend P g id t tx s x = some r) (hg : ∀ y ∈ r.rd, g' y = g y) : opAppend P g' id t tx s x = some r := by
  unfold opAppend at h ⊢
  split at h
  · rename_i hrow
    rw [if_pos hrow]
    split at h
    · rename_i e hP
      split at h
      · rename_i i a z h1 h2 h3
        split at h
        · rename_i hc
          split at h
          · rename_i xs m rd hsrc
            have hsub : (∀ y ∈ rd, g' y = g y) → srcCells g' i.size x = some (xs, m, rd) := fun hh => srcCells_local hsrc hh
            split at h
            · split at h
              · rename_i hm
                obtain rfl := Option.some.inj h
                simp only [hP, h1, h2, h3, if_pos hc, hsub hg, if_pos hm]
              · rename_i hm
                split at h
                · rename_i hb
                  obtain rfl := Option.some.inj h
                  simp only [hP, h1, h2, h3, if_pos hc, hsub hg, if_neg hm, if_pos hb]
                · simp at h
            · split at h
              · rename_i ob hob
                split at h
                · rename_i hcc
                  split at h
                  · rename_i hm
                    obtain rfl := Option.some.inj h
                    simp only [hP, h1, h2, h3, if_pos hc, hsub (fun y hy => hg y (List.mem_cons_of_mem _ hy)), hg _ List.mem_cons_self, hob, if_pos hcc, if_pos hm]
                  · rename_i hm
                    split at h
                    · rename_i hb
                      obtain rfl := Option.some.inj h
                      simp only [hP, h1, h2, h3, if_pos hc, hsub (fun y hy => hg y (List.mem_cons_of_mem _ hy)), hg _ List.mem_cons_self, hob, if_pos hcc, if_neg hm, if_pos hb]
                    · simp at h
                · simp at h
              · simp at h
            · simp at h
          · simp at h
        · simp at h
      · simp at h
    · simp at h
  · simp at h
theorem opConvert_local {s d : TypeId} {u : U} (h : opConvert P g s d u = some r) (hg : ∀ y ∈ r.rd, g' y = g y) : opConvert P g' s d u = some r := by
  unfold opConvert at h ⊢
  split at h
  · exact h
  · rename_i e h1 h2
    split at h
    case h_2 h3 => exact h
    · rename_i h3
      split at h
      · exact h
      · exact h
      · split at h
        · rename_i ob hob
          split at h
          · rename_i hc
            obtain ⟨b, hb, rfl⟩ := Option.map_eq_some_iff.1 h
            simp only [hg _ (List.mem_singleton.2 rfl), hob, if_pos hc, hb, Option.map_some]
          · simp at h
        · simp at h
      · simp at h
    · simp at h
  · split at h
    · split at h
      · rename_i ob hob
        split at h
        · rename_i hc
          obtain rfl := Option.some.inj h
          simp only [hg _ (List.mem_singleton.2 rfl), hob, if_pos hc]
        · simp at h
      · simp at h
    · simp at h
  · simp at h
theorem opClear_local {t : TypeId} {d : U} (h : opClear P g t d = some r) (hg : ∀ y ∈ r.rd, g' y = g y) : opClear P g' t d = some r := by
  unfold opClear at h ⊢
  split at h
  · rename_i e o gn off n h1
    split at h
    · rename_i ob sz z h2 h3 h4
      split at h
      · rename_i hc
        obtain rfl := Option.some.inj h
        simp only [h1, hg _ (List.mem_singleton.2 rfl), h2, h3, h4, if_pos hc]
      · simp at h
    · simp at h
  · simp at h
theorem opCopy_local {t tx : TypeId} {d s : U} (h : opCopy P g t tx d s = some r) (hg : ∀ y ∈ r.rd, g' y = g y) : opCopy P g' t tx d s = some r := by
  unfold opCopy at h ⊢
  split at h
  · rename_i hc0
    rw [if_pos hc0]
    split at h
    · split at h
      · split at h
        · rename_i h0
          rw [if_pos h0]
          exact h
        · rename_i h0
          rename_i e n m hP hn hm _ sz hsz
          split at h
          · rename_i o gn off _
            split at h
            · rename_i ob xs c rd hob hsrc
              split at h
              · rename_i hc
                obtain rfl := Option.some.inj h
                have h1 := hg o List.mem_cons_self
                have h2 := srcCells_local hsrc (fun y hy => hg y (List.mem_cons_of_mem _ hy))
                rw [if_neg h0]
                simp only [h1, hob, h2]
                rw [if_pos hc]
              · simp at h
            · simp at h
          · simp at h
      · simp at h
    · simp at h
  · simp at h
theorem opLookup_local {t : TypeId} {ok : Bool} {x y : U} (h : opLookup P g t ok x y = some r) (hg : ∀ y ∈ r.rd, g' y = g y) : opLookup P g' t ok x y = some r := by
  unfold opLookup at h ⊢
  split at h
  · rename_i kt et o gn k h1 h2
    split at h
    · rename_i ob hob
      split at h
      · rename_i hc
        split at h
        · rename_i i hf
          obtain ⟨u, hu, rfl⟩ := Option.map_eq_some_iff.1 h
          simp only [h1, h2, hg _ (List.mem_singleton.2 rfl), hob, if_pos hc, hf, hu, Option.map_some]
        · rename_i hf
          obtain ⟨z, hz, rfl⟩ := Option.map_eq_some_iff.1 h
          simp only [h1, h2, hg _ (List.mem_singleton.2 rfl), hob, if_pos hc, hf, hz, Option.map_some]
        · simp at h
      · simp at h
    · simp at h
  · simp at h
theorem opMapUpdate_local {t : TypeId} {m k x : U} (h : opMapUpdate P g t m k x = some r) (hg : ∀ y ∈ r.rd, g' y = g y) : opMapUpdate P g' t m k x = some r := by
  unfold opMapUpdate at h ⊢
  split at h
  · rename_i kt et o gn kv h1 h2
    split at h
    · rename_i ob hob
      split at h
      · rename_i hc
        split at h
        · rename_i i hf
          split at h
          · rename_i old hold
            split at h
            · rename_i hsb
              obtain rfl := Option.some.inj h
              simp only [h1, h2, hg _ (List.mem_singleton.2 rfl), hob, if_pos hc, hf, hold, if_pos hsb]
            · simp at h
          · simp at h
        · rename_i hf
          obtain rfl := Option.some.inj h
          simp only [h1, h2, hg _ (List.mem_singleton.2 rfl), hob, if_pos hc, hf]
        · simp at h
      · simp at h
    · simp at h
  · simp at h
theorem opLenG_local {t : TypeId} {u : U} (h : opLenG P g t u = some r) (hg : ∀ y ∈ r.rd, g' y = g y) : opLenG P g' t u = some r := by
  unfold opLenG at h ⊢
  split at h
  · split at h
    · rename_i h1 hob
      split at h
      · rename_i hc
        obtain rfl := Option.some.inj h
        simp only [h1, hg _ (List.mem_singleton.2 rfl), hob, if_pos hc]
      · simp at h
    · simp at h
  · exact h
theorem opStep_view {o : Oper} (h : opStep P g id tm o = some r) (hg : ∀ y ∈ r.rd, g' y = g y) : opStep P g' id tm o = some r := by
  obtain ⟨dst, op, type, pos, after, guard⟩ := o
  have hb : ∀ {f f' : U → Option Res} {x : Option U}, x.bind f = some r → (∀ u, f u = some r → f' u = some r) → x.bind f' = some r := by
    intro f f' x h hf
    cases x with
    | none => simp at h
    | some u => exact hf u h
  unfold opStep at h ⊢
  cases op <;> try exact h
  case binOp b t x y z => cases b <;> exact h
  case makeFunc f a b => cases f <;> exact h
  case makeMap t r => cases r <;> exact h
  case lookup t x i ok =>
    simp only at h ⊢
    split at h
    · exact h
    · exact hb h fun u hu => hb hu fun v hv => opLookup_local hv hg
  case mapUpdate t m k x => exact hb h fun u hu => hb hu fun v hv => hb hv fun z hz => opMapUpdate_local hz hg
  case insert t m k x => exact hb h fun u hu => hb hu fun v hv => hb hv fun z hz => opMapUpdate_local hz hg
  case load t a => exact hb h fun u hu => opLoad_local hu hg
  case store t a x => exact hb h fun u hu => hb hu fun v hv => opStore_local hv hg
  case indexAddr t x i => exact hb h fun u hu => hb hu fun v hv => opIndexAddr_local hv hg
  case slice t x lo hi mx =>
    simp only at h ⊢
    split at h
    · exact h
    · exact hb h fun u hu => opSlice_local hu hg
  case convert s d x =>
    simp only at h ⊢
    split at h
    · exact h
    · exact hb h fun u hu => opConvert_local hu hg
  case call c =>
    simp only at h ⊢
    split at h
    · rename_i s x t tx h1 h2 h3
      exact hb h fun u hu => hb hu fun v hv => opAppend_local hv hg
    · rename_i x t h1 h2 h3
      split at h
      · exact h
      · exact hb h fun u hu => opLenG_local hu hg
    · rename_i d t h1 h2 h3
      exact hb h fun u hu => opClear_local hu hg
    · exact hb h fun u hu => hb hu fun v hv => opCopy_local hv hg
    · exact h
end
theorem evalU_agree {tm tm' : List U} {x : Operand} (h : ∀ t, x = .tmp t → tm'[t]? = tm[t]?) : evalU tm' x = evalU tm x := by
  cases x with
  | tmp t => exact h t rfl
  | _ => rfl
theorem mapM_congr' {α β : Type} {f f' : α → Option β} : ∀ {l : List α}, (∀ x ∈ l, f x = f' x) → l.mapM f = l.mapM f' := by
  intro l
  induction l with
  | nil => intro _; rfl
  | cons a l ih =>
    intro h
    rw [List.mapM_cons, List.mapM_cons, h a (by simp), ih fun x hx => h x (by simp [hx])]
theorem opPure_tmps {P : Program} {tm tm' : List U} {o : Oper} (h : ∀ x ∈ o.op.operands, evalU tm' x = evalU tm x) : opPure P tm' o = opPure P tm o := by
  unfold opPure
  have h1 : o.op.operands.toList.all (fun x => ((evalU tm' x).bind valU).isSome) = o.op.operands.toList.all (fun x => ((evalU tm x).bind valU).isSome) := by
    rw [Bool.eq_iff_iff, List.all_eq_true, List.all_eq_true]
    constructor
    · intro hh x hx; rw [← h x (by simpa using hx)]; exact hh x hx
    · intro hh x hx; rw [h x (by simpa using hx)]; exact hh x hx
  rw [h1]
  split
  · by_cases hs : ∃ cs b, o.op = .select cs b
    · obtain ⟨cs, b, hs⟩ := hs
      simp only [hs]
    · have hs' : ∀ cs b, o.op ≠ .select cs b := fun cs b e => hs ⟨cs, b, e⟩
      rw [execOp_congr (ρ := fun x => ((evalU tm' x).bind valU).getD Go.undef) (ρ' := fun x => ((evalU tm x).bind valU).getD Go.undef) o hs' fun x hx => by simp only [h x hx]]
  · rfl
theorem opStep_tmps {P : Program} {g : Nat → Option Obj} {id : Nat} {tm tm' : List U} {o : Oper} (h : ∀ x ∈ o.op.operands, evalU tm' x = evalU tm x) :
    opStep P g id tm' o = opStep P g id tm o := by
  have hp := opPure_tmps (P := P) h
  obtain ⟨dst, op, type, pos, after, guard⟩ := o
  have hparts : ∀ ps : Array (Nat × Operand), (∀ x ∈ (ps.toList.map (·.2)).toArray, evalU tm' x = evalU tm x) → partsU tm' ps = partsU tm ps := by
    intro ps hh
    refine mapM_congr' fun p hpm => ?_
    obtain ⟨i, x⟩ := p
    simp only [hh x (by simp; exact ⟨i, by simpa using hpm⟩)]
  have hopt : ∀ x : Option Operand, (∀ y ∈ x.toArray, evalU tm' y = evalU tm y) → optU tm' x = optU tm x := by
    intro x hh
    cases x with
    | none => rfl
    | some y => simp only [optU, hh y (by simp)]
  unfold opStep
  cases op <;> simp only [Op.operands] at h <;> simp only
  case call c =>
    have ha : ∀ x ∈ c.args.toList, evalU tm' x = evalU tm x := fun x hx => h x (by simp [Call.operands]; right; simpa using hx)
    rw [hp]
    split <;> try rfl
    · rename_i s x t tx h1 h2 h3
      rw [ha s (by simp [h2]), ha x (by simp [h2])]
    · rename_i x t h1 h2 h3
      rw [ha x (by simp [h2])]
    · rename_i d t h1 h2 h3
      rw [ha d (by simp [h2])]
    · rename_i d s t tx h1 h2 h3
      rw [ha d (by simp [h2]), ha s (by simp [h2])]
  case binOp b t x y z =>
    have h1 := h x (by simp)
    have h2 := h y (by simp)
    cases b <;> simp only [hp, h1, h2]
  case makeMap t r =>
    cases r with
    | none => rfl
    | some y => exact hp
  case build t ps => simp only [opBuild, hparts ps h]
  case buildSlice t n ps => simp only [opBuildSlice, hparts ps h]
  case makeFunc fn first caps =>
    cases fn <;> simp only
    split
    · rw [mapM_congr' fun x hx => h x (by simp; right; simpa using hx)]
    · rfl
    all_goals (try exact hp)
  case slice t x lo hi mx =>
    rw [hp]
    split
    · rfl
    · rw [h x (by simp)]
      congr 1
      funext u
      simp only [opSlice, hopt lo (fun y hy => h y (by simp at hy ⊢; simp [hy])), hopt hi (fun y hy => h y (by simp at hy ⊢; simp [hy]))]
  all_goals first
    | exact hp
    | rfl
    | (simp only [hp]; done)
    | (simp at h; simp only [hp, h]; done)
    | (simp at h; simp only [hp, h.1, h.2]; done)
    | (simp at h; simp only [hp, h.1, h.2.1, h.2.2]; done)
    | skip
end Go.Proofs.YtjofhegodknmaaaGreat.V
namespace Go.Proofs.YtjofhegodknmaaaGreat.V
open Go
theorem updF_in : ∀ (l : List (Nat × Obj)) (g g' : Nat → Option Obj) (x : Nat), x ∈ l.map (·.1) → updF g l x = updF g' l x := by
  intro l
  induction l with
  | nil => intro g g' x h; simp at h
  | cons p r ih =>
    intro g g' x h
    obtain ⟨o, e⟩ := p
    simp only [updF]
    by_cases hr : x ∈ r.map (·.1)
    · exact ih _ _ x hr
    · have hx : x = o := by simpa [hr] using h
      subst hx
      have key : ∀ (l : List (Nat × Obj)) (f f' : Nat → Option Obj), f x = f' x → updF f l x = updF f' l x := by
        intro l
        induction l with
        | nil => intro f f' h; exact h
        | cons q s ih2 => intro f f' h; obtain ⟨o', e'⟩ := q; simp only [updF]; exact ih2 _ _ (by simp only [h])
      exact key r _ _ (by simp)
theorem updF_at (l : List (Nat × Obj)) : ∀ (g g' : Nat → Option Obj) (x : Nat), g x = g' x → updF g l x = updF g' l x := by
  induction l with
  | nil => intro g g' x h; exact h
  | cons p r ih => intro g g' x h; obtain ⟨o, e⟩ := p; simp only [updF]; exact ih _ _ x (by simp only [h])
theorem updF_out : ∀ (l : List (Nat × Obj)) (g : Nat → Option Obj) (x : Nat), x ∉ l.map (·.1) → updF g l x = g x := by
  intro l
  induction l with
  | nil => intro g x h; rfl
  | cons p r ih =>
    intro g x h
    obtain ⟨o, e⟩ := p
    simp only [List.map_cons, List.mem_cons, not_or] at h
    simp only [updF]
    rw [ih _ x h.2, if_neg h.1]
theorem updF_some : ∀ (l : List (Nat × Obj)) (g : Nat → Option Obj) (x : Nat), x ∈ l.map (·.1) → ∃ ob, updF g l x = some ob := by
  intro l
  induction l with
  | nil => intro g x h; simp at h
  | cons p r ih =>
    intro g x h
    obtain ⟨o, e⟩ := p
    simp only [updF]
    by_cases hr : x ∈ r.map (·.1)
    · exact ih _ x hr
    · have hx : x = o := by simpa [hr] using h
      rw [updF_out r _ x hr]
      exact ⟨e, by simp [hx]⟩
theorem updF_keeps (l : List (Nat × Obj)) (g : Nat → Option Obj) (x : Nat) (h : g x ≠ none) : updF g l x ≠ none := by
  by_cases hx : x ∈ l.map (·.1)
  · obtain ⟨ob, e⟩ := updF_some l g x hx
    rw [e]; simp
  · rw [updF_out l g x hx]; exact h
theorem updF_from (l : List (Nat × Obj)) (g : Nat → Option Obj) (x : Nat) (h : updF g l x ≠ none) : x ∈ l.map (·.1) ∨ g x ≠ none := by
  by_cases hx : x ∈ l.map (·.1)
  · exact .inl hx
  · rw [updF_out l g x hx] at h; exact .inr h
theorem getO_sub (g : Nat → Option Obj) : ∀ (ids : List Nat) (x : Nat), getO (subStore g ids) x = if x ∈ ids then g x else none := by
  intro ids
  induction ids with
  | nil => intro x; simp [subStore, getO]
  | cons o r ih =>
    intro x
    cases e : g o with
    | none =>
      have e0 : subStore g (o :: r) = subStore g r := by simp [subStore, e]
      rw [e0, ih]
      by_cases hx : x ∈ r
      · simp [hx]
      · by_cases hxo : x = o
        · subst hxo; simp [hx, e]
        · simp [hx, hxo]
    | some ob =>
      have e0 : subStore g (o :: r) = (o, ob) :: subStore g r := by simp [subStore, e]
      rw [e0]
      simp only [getO]
      by_cases hxo : x = o
      · subst hxo; simp [e]
      · have hox : ¬ o = x := fun h => hxo h.symm
        simp only [if_neg hox, ih, List.mem_cons, hxo, false_or]
theorem getO_mem {s : Store} {x : Nat} {ob : Obj} (h : getO s x = some ob) : x ∈ s.map (·.1) := by
  induction s with
  | nil => simp [getO] at h
  | cons p r ih =>
    obtain ⟨o, e⟩ := p
    simp only [getO] at h
    split at h
    · rename_i hx; simp [hx]
    · simp [ih h]
theorem sub_ids {g : Nat → Option Obj} {ids : List Nat} {x : Nat} (h : x ∈ (subStore g ids).map (·.1)) : x ∈ ids ∧ g x ≠ none := by
  simp only [subStore, List.mem_map, List.mem_filterMap] at h
  obtain ⟨p, ⟨o, ho, hp⟩, rfl⟩ := h
  obtain ⟨ob, hob, rfl⟩ := Option.map_eq_some_iff.1 hp
  exact ⟨ho, by simp [hob]⟩
theorem asUp_ids {s : Store} {x : Nat} (h : x ∈ (asUp s).map (·.1)) : getO s x ≠ none := (sub_ids h).2
theorem updF_sub (g0 : Nat → Option Obj) : ∀ (ids : List Nat) (g : Nat → Option Obj) (x : Nat), (g x = g0 x ∨ x ∈ ids) → g0 x ≠ none → updF g (subStore g0 ids) x = g0 x := by
  intro ids
  induction ids with
  | nil => intro g x h hn; simpa [subStore, updF] using h
  | cons o r ih =>
    intro g x h hn
    cases e : g0 o with
    | none =>
      have e0 : subStore g0 (o :: r) = subStore g0 r := by simp [subStore, e]
      rw [e0]
      refine ih g x ?_ hn
      rcases h with h | h
      · exact .inl h
      · rcases List.mem_cons.1 h with rfl | h
        · exact absurd e hn
        · exact .inr h
    | some ob =>
      have e0 : subStore g0 (o :: r) = (o, ob) :: subStore g0 r := by simp [subStore, e]
      rw [e0]
      simp only [updF]
      refine ih _ x ?_ hn
      by_cases hxo : x = o
      · subst hxo; exact .inl (by simp [e])
      · rcases h with h | h
        · exact .inl (by simp [hxo, h])
        · exact .inr (by simpa [hxo] using h)
theorem updF_asUp (g : Nat → Option Obj) (s : Store) (x : Nat) : updF g (asUp s) x = (getO s x).or (g x) := by
  cases e : getO s x with
  | none =>
    rw [updF_out _ _ _ (fun h => asUp_ids h e)]
    rfl
  | some ob =>
    have := updF_sub (getO s) (s.map (·.1)) g x (.inr (getO_mem e)) (by simp [e])
    rw [asUp, this, e]
    rfl
theorem snap_ids {g : Nat → Option Obj} {ids : List Nat} {x : Nat} (h : x ∈ (snapAll g ids).map (·.1)) : x ∈ ids ∧ g x ≠ none := by
  simp only [snapAll, List.mem_map, List.mem_filterMap] at h
  obtain ⟨p, ⟨o, ho, hp⟩, rfl⟩ := h
  obtain ⟨ob, hob, rfl⟩ := Option.map_eq_some_iff.1 hp
  exact ⟨ho, by simp [hob]⟩
theorem filterMap_local {α β : Type} {f f' : α → Option β} : ∀ {l : List α}, (∀ x ∈ l, f x = f' x) → l.filterMap f = l.filterMap f' := by
  intro l
  induction l with
  | nil => intro _; rfl
  | cons a l ih =>
    intro h
    rw [List.filterMap_cons, List.filterMap_cons, h a (by simp), ih fun x hx => h x (by simp [hx])]
theorem snapAll_local {g g' : Nat → Option Obj} {l : List Nat} (h : ∀ x ∈ l, g' x = g x) : snapAll g' l = snapAll g l :=
  filterMap_local fun x hx => by rw [h x hx]
theorem subStore_local {g g' : Nat → Option Obj} {l : List Nat} (h : ∀ x ∈ l, g' x = g x) : subStore g' l = subStore g l :=
  filterMap_local fun x hx => by rw [h x hx]
theorem reach_acc {g : Nat → Option Obj} : ∀ (k : Nat) (todo acc : List Nat) (x : Nat), x ∈ acc → x ∈ reach g k todo acc := by
  intro k
  induction k with
  | zero => intro todo acc x h; exact h
  | succ k ih =>
    intro todo acc x h
    cases todo with
    | nil => exact h
    | cons o todo =>
      simp only [reach]
      split
      · exact ih _ _ _ h
      · split
        · exact ih _ _ _ (List.mem_cons_of_mem _ h)
        · exact ih _ _ _ (List.mem_cons_of_mem _ h)
theorem reach_local {g g' : Nat → Option Obj} : ∀ (k : Nat) (todo acc : List Nat), (∀ x ∈ reach g k todo acc, g' x = g x) → reach g' k todo acc = reach g k todo acc := by
  intro k
  induction k with
  | zero => intro todo acc h; rfl
  | succ k ih =>
    intro todo acc h
    cases todo with
    | nil => rfl
    | cons o todo =>
      simp only [reach] at h ⊢
      split
      · rename_i hc
        rw [if_pos hc] at h
        exact ih _ _ h
      · rename_i hc
        rw [if_neg hc] at h
        cases e : g o with
        | none =>
          rw [e] at h
          have : g' o = g o := h o (reach_acc _ _ _ _ (by simp))
          rw [this, e]
          exact ih _ _ h
        | some ob =>
          rw [e] at h
          have : g' o = g o := h o (reach_acc _ _ _ _ (by simp))
          rw [this, e]
          exact ih _ _ h
theorem closed_local {g g' : Nat → Option Obj} {ids : List Nat} (h : ∀ x ∈ ids, g' x = g x) : closed g' ids = closed g ids := by
  unfold closed
  rw [Bool.eq_iff_iff, List.all_eq_true, List.all_eq_true]
  constructor
  · intro hh x hx; have := hh x hx; rw [h x hx] at this; exact this
  · intro hh x hx; have := hh x hx; rw [h x hx]; exact this
theorem argIo_local {g g' : Nat → Option Obj} {io : Bool} {u : U} {r : U × List Nat} (h : argIo g io u = some r) (hg : ∀ x ∈ r.2, g' x = g x) : argIo g' io u = some r := by
  unfold argIo at h ⊢
  split
  · rename_i hc; rw [if_pos hc] at h; exact h
  · rename_i hc
    rw [if_neg hc] at h
    obtain ⟨d, hd, rfl⟩ := Option.map_eq_some_iff.1 h
    rw [toD_local 40 hd hg]
    rfl
variable {P : Program} {an : An}
theorem docall_local {k id f : Nat} {us : List U} {g g' : Nat → Option Obj} {nx : Nat} {r : CallRes} (h : docall P an k id f us g nx = some r) (hg : ∀ x ∈ r.res.rd, g' x = g x) :
    docall P an k id f us g' nx = some r := by
  cases k with
  | zero => simp [docall] at h
  | succ k =>
    simp only [docall, forceUN_eq, forceDN_eq, forceNs_eq, forceUp_eq, forceL_eq] at h ⊢
    split
    · rename_i hc
      rw [if_pos hc] at h
      split at h
      · simp at h
      · rename_i vs hvs
        split at h
        · rename_i hcl
          split at h
          · rename_i u st' nx' hp
            obtain rfl := Option.some.inj h
            simp only at hg
            have hsid : ∀ x ∈ vs.flatMap (·.2), g' x = g x := fun x hx => hg x (List.mem_append_right _ hx)
            have hvs' : us.mapM (argIo g' (an.io f)) = some vs := mapM_local hvs fun x _ y hy e => argIo_local e fun z hz => hsid z (List.mem_flatMap.2 ⟨y, hy, hz⟩)
            rw [hvs']
            simp only
            have hsn := snapAll_local hsid
            rw [hsn]
            have h1 : ∀ x ∈ reach (updF g (snapAll g (vs.flatMap (·.2)))) 400 (refsL (vs.map (·.1))) [],
                updF g' (snapAll g (vs.flatMap (·.2))) x = updF g (snapAll g (vs.flatMap (·.2))) x := fun x hx => updF_at _ _ _ _ (hg x (List.mem_append_left _ hx))
            rw [reach_local _ _ _ h1]
            rw [closed_local h1, if_pos hcl, subStore_local h1, hp]
          · simp at h
        · simp at h
    · rename_i hc
      rw [if_neg hc] at h
      split at h
      · simp at h
      · rename_i ds hds
        have hm : (∀ x ∈ ds.flatMap (·.2), g' x = g x) → us.mapM (toD g' 40) = some ds := fun hh =>
          mapM_local hds fun x _ y hy e => toD_local 40 e fun z hz => hh z (List.mem_flatMap.2 ⟨y, hy, hz⟩)
        split at h
        · rename_i rs hsp
          obtain rfl := Option.some.inj h
          rw [hm hg]
          simp only [hsp, snapAll_local hg]
        split at h
        · rename_i hsp _ u st' nx' hp
          split at h
          · rename_i l
            obtain ⟨q, hq, rfl⟩ := Option.map_eq_some_iff.1 h
            rw [hm hg]
            simp only [hsp, hp, hq, snapAll_local hg, Option.map_some]
          · rename_i u hne
            obtain ⟨q, hq, rfl⟩ := Option.map_eq_some_iff.1 h
            rw [hm hg]
            simp only [hsp, hp]
            simp only [hq, snapAll_local hg, Option.map_some]
        · simp at h
theorem wantedU_agree {ops : Array Oper} {tm tm' : List U} {o : Oper} (h : ∀ t ∈ looks ops o, tm'[t]? = tm[t]?) : wantedU ops tm' o = wantedU ops tm o := by
  unfold wantedU
  cases hg : o.guard with
  | none => rfl
  | some p =>
    obtain ⟨j, b⟩ := p
    simp only
    cases hd : (ops[j]?).bind (·.dst) with
    | none => rfl
    | some t =>
      have : tm'[t]? = tm[t]? := h t (by simp [looks, hg, hd])
      simp only [Option.bind_some, this]
theorem looks_eval {ops : Array Oper} {tm tm' : List U} {o : Oper} (h : ∀ t ∈ looks ops o, tm'[t]? = tm[t]?) : ∀ x ∈ o.op.operands, evalU tm' x = evalU tm x := by
  intro x hx
  refine evalU_agree fun t e => h t ?_
  subst e
  refine List.mem_append_left _ (List.mem_filterMap.2 ⟨.tmp t, by simpa using hx, rfl⟩)
theorem oper_local {k id : Nat} {o : Oper} {ops : Array Oper} {tm tm' : List U} {g g' : Nat → Option Obj} {nx : Nat} {r : CallRes} (h : oper P an k id o tm g nx = some r)
    (ht : ∀ t ∈ looks ops o, tm'[t]? = tm[t]?) (hg : ∀ x ∈ r.res.rd, g' x = g x) :
    oper P an k id o tm' g' nx = some r := by
  have he := looks_eval ht
  cases k with
  | zero => simp [oper] at h
  | succ k =>
    simp only [oper] at h ⊢
    have ho : orcU an tm' o = orcU an tm o := by
      unfold orcU
      split
      · rfl
      · rw [mapM_congr' (f := fun x => (evalU tm' x).bind asDat) (f' := fun x => (evalU tm x).bind asDat) fun x hx => by rw [he x (by simpa using hx)]]
    rw [ho]
    split at h
    · exact h
    split at h
    · rename_i r' hr
      obtain rfl := Option.some.inj h
      rw [opStep_tmps he, opStep_view hr hg]
    · rename_i hr
      split at h
      · rename_i c hop
        split at h
        · rename_i f hcal
          have hr' : opStep P g' id tm' o = none := by
            rw [opStep_tmps he]
            have e1 : opStep P g' id tm o = opPure P tm o := by unfold opStep; rw [hop]; simp only [hcal]
            have e2 : opStep P g id tm o = opPure P tm o := by unfold opStep; rw [hop]; simp only [hcal]
            rw [e1, ← e2, hr]
          rw [hr']
          simp only [hop, hcal]
          have h1 : evalU tm' f = evalU tm f := he f (by rw [hop]; simp [Op.operands, Call.operands, hcal])
          have h2 : c.args.toList.mapM (evalU tm') = c.args.toList.mapM (evalU tm) := mapM_congr' fun x hx => he x (by rw [hop]; simp [Op.operands, Call.operands]; right; simpa using hx)
          rw [h1, h2]
          split at h
          · exact docall_local h hg
          · simp at h
        · simp at h
      · simp at h
end Go.Proofs.YtjofhegodknmaaaGreat.V
namespace Go.Proofs.YtjofhegodknmaaaGreat.V
open Go
structure Gr (st : Store) (nx : Nat) (st' : Store) (nx' : Nat) : Prop where
  le : nx ≤ nx'
  keeps : ∀ x, getO st x ≠ none → getO st' x ≠ none
  news : ∀ x, getO st' x ≠ none → getO st x ≠ none ∨ (nx ≤ x ∧ x < nx')
theorem Gr.refl (st : Store) (nx : Nat) : Gr st nx st nx := ⟨Nat.le_refl _, fun _ h => h, fun _ h => .inl h⟩
theorem Gr.trans {a b c : Store} {i j k : Nat} (h : Gr a i b j) (h' : Gr b j c k) : Gr a i c k where
  le := Nat.le_trans h.le h'.le
  keeps := fun x hx => h'.keeps x (h.keeps x hx)
  news := fun x hx => by
    rcases h'.news x hx with h1 | h1
    · rcases h.news x h1 with h2 | h2
      · exact .inl h2
      · have := h'.le; exact .inr ⟨h2.1, by omega⟩
    · have := h.le; exact .inr ⟨by omega, h1.2⟩
structure UpOk (id nx : Nat) (g : Nat → Option Obj) (r : CallRes) : Prop where
  le : nx ≤ r.nx
  eq : r.cl = false → r.nx = nx
  up : ∀ x ∈ r.res.up.map (·.1), x = id ∨ (r.cl = true ∧ nx ≤ x ∧ x < r.nx) ∨ g x ≠ none
section
variable {P : Program} {an : An} {g : Nat → Option Obj} {id : Nat} {tm : List U} {r : Res}
theorem opPure_up {o : Oper} (h : opPure P tm o = some r) : r.up = [] := by
  unfold opPure at h
  repeat' split at h
  all_goals first | (simp at h; done) | (obtain ⟨d, hd, rfl⟩ := Option.map_eq_some_iff.1 h; rfl)
theorem opAlloc_up {t : TypeId} {cs : List U} (h : opAlloc P id t cs = some r) : ∀ x ∈ r.up.map (·.1), x = id ∨ g x ≠ none := by
  unfold opAlloc at h
  repeat' split at h
  all_goals first | (simp at h; done) | (obtain rfl := Option.some.inj h; intro x hx; simp at hx; exact .inl hx)
theorem opLoad_up {t : TypeId} {u : U} (h : opLoad P g t u = some r) : r.up = [] := by
  unfold opLoad at h
  repeat' split at h
  all_goals first | (simp at h; done) | (obtain rfl := Option.some.inj h; rfl) | (obtain ⟨d, hd, rfl⟩ := Option.map_eq_some_iff.1 h; rfl)
theorem opStore_up {t : TypeId} {a x : U} (h : opStore P g t a x = some r) : ∀ x ∈ r.up.map (·.1), x = id ∨ g x ≠ none := by
  unfold opStore at h
  split at h
  · split at h
    · rename_i ob n h1 h2
      split at h
      · obtain rfl := Option.some.inj h; intro x hx; simp at hx; subst hx; exact .inr (by simp [h1])
      · simp at h
    · simp at h
  · simp at h
theorem opBuild_up {t : TypeId} {ps : Array (Nat × Operand)} (h : opBuild P tm t ps = some r) : r.up = [] := by
  unfold opBuild at h
  repeat' split at h
  all_goals first | (simp at h; done) | (obtain rfl := Option.some.inj h; rfl) | (obtain ⟨d, hd, rfl⟩ := Option.map_eq_some_iff.1 h; rfl)
theorem opBuildSlice_up {t : TypeId} {n : Nat} {ps : Array (Nat × Operand)} (h : opBuildSlice P id tm t n ps = some r) : ∀ x ∈ r.up.map (·.1), x = id ∨ g x ≠ none := by
  unfold opBuildSlice at h
  repeat' split at h
  all_goals first | (simp at h; done) | (obtain ⟨d, hd, rfl⟩ := Option.map_eq_some_iff.1 h; intro x hx; simp at hx; exact .inl hx)
theorem opFieldAddr_up {s : TypeId} {f : Nat} {u : U} (h : opFieldAddr P s f u = some r) : r.up = [] := by
  unfold opFieldAddr at h
  repeat' split at h
  all_goals first | (simp at h; done) | (obtain rfl := Option.some.inj h; rfl) | (obtain ⟨d, hd, rfl⟩ := Option.map_eq_some_iff.1 h; rfl)
theorem opField_up {s : TypeId} {f : Nat} {u : U} (h : opField P s f u = some r) : r.up = [] := by
  unfold opField at h
  repeat' split at h
  all_goals first | (simp at h; done) | (obtain rfl := Option.some.inj h; rfl) | (obtain ⟨d, hd, rfl⟩ := Option.map_eq_some_iff.1 h; rfl)
theorem opIndexAddr_up {s : TypeId} {u v : U} (h : opIndexAddr P g s u v = some r) : r.up = [] := by
  unfold opIndexAddr at h
  repeat' split at h
  all_goals first | (simp at h; done) | (obtain rfl := Option.some.inj h; rfl) | (obtain ⟨d, hd, rfl⟩ := Option.map_eq_some_iff.1 h; rfl)
theorem opIndex_up {s : TypeId} {u v : U} (h : opIndex P s u v = some r) : r.up = [] := by
  unfold opIndex at h
  repeat' split at h
  all_goals first | (simp at h; done) | (obtain rfl := Option.some.inj h; rfl) | (obtain ⟨d, hd, rfl⟩ := Option.map_eq_some_iff.1 h; rfl)
theorem opSlice_up {t : TypeId} {x : U} {lo hi mx : Option Operand} (h : opSlice P g tm t x lo hi mx = some r) : r.up = [] := by
  unfold opSlice at h
  repeat' split at h
  all_goals first | (simp at h; done) | (obtain rfl := Option.some.inj h; rfl) | (obtain ⟨d, hd, rfl⟩ := Option.map_eq_some_iff.1 h; rfl)
theorem opAppend_up {t tx : TypeId} {s x : U} (h : opAppend P g id t tx s x = some r) : ∀ x ∈ r.up.map (·.1), x = id ∨ g x ≠ none := by
  unfold opAppend at h
  split at h
  · split at h
    · split at h
      · split at h
        · split at h
          · split at h
            · split at h
              · obtain rfl := Option.some.inj h; intro x hx; simp at hx
              · split at h
                · obtain rfl := Option.some.inj h; intro x hx; simp at hx; exact .inl hx
                · simp at h
            · split at h
              · rename_i ob hob
                split at h
                · split at h
                  · obtain rfl := Option.some.inj h; intro x hx; simp at hx
                  · split at h
                    · obtain rfl := Option.some.inj h; intro x hx; simp at hx; subst hx; exact .inr (by simp [hob])
                    · simp at h
                · simp at h
              · simp at h
            · simp at h
          · simp at h
        · simp at h
      · simp at h
    · simp at h
  · simp at h
theorem opLen_up {t : TypeId} {u : U} (h : opLen P t u = some r) : r.up = [] := by
  unfold opLen at h
  repeat' split at h
  all_goals first | (simp at h; done) | (obtain rfl := Option.some.inj h; rfl) | (obtain ⟨d, hd, rfl⟩ := Option.map_eq_some_iff.1 h; rfl)
theorem opMakeSlice_up {t : TypeId} {u v : U} (h : opMakeSlice P id t u v = some r) : ∀ x ∈ r.up.map (·.1), x = id ∨ g x ≠ none := by
  unfold opMakeSlice at h
  repeat' split at h
  all_goals first | (simp at h; done) | (obtain rfl := Option.some.inj h; intro x hx; simp at hx; exact .inl hx)
theorem opEql_up {t : TypeId} {b : Bool} {u v : U} (h : opEql P t b u v = some r) : r.up = [] := by
  unfold opEql at h
  repeat' split at h
  all_goals first | (simp at h; done) | (obtain rfl := Option.some.inj h; rfl)
theorem opConvert_up {s d : TypeId} {u : U} (h : opConvert P g s d u = some r) : ∀ x ∈ r.up.map (·.1), x = id ∨ g x ≠ none := by
  unfold opConvert at h
  repeat' split at h
  all_goals first | (simp at h; done) | (obtain rfl := Option.some.inj h; intro x hx; simp at hx; done) | (obtain ⟨d, hd, rfl⟩ := Option.map_eq_some_iff.1 h; intro x hx; simp at hx; done) | (rename_i h1 _; obtain rfl := Option.some.inj h; intro x hx; simp at hx; subst hx; exact .inr (by simp [h1]))
theorem opClear_up {t : TypeId} {d : U} (h : opClear P g t d = some r) : ∀ x ∈ r.up.map (·.1), x = id ∨ g x ≠ none := by
  unfold opClear at h
  split at h
  · split at h
    · rename_i ob sz z h1 h2 h3
      split at h
      · obtain rfl := Option.some.inj h; intro x hx; simp at hx; subst hx; exact .inr (by simp [h1])
      · simp at h
    · simp at h
  · simp at h
theorem opCopy_up {t tx : TypeId} {d s : U} (h : opCopy P g t tx d s = some r) : ∀ x ∈ r.up.map (·.1), x = id ∨ g x ≠ none := by
  unfold opCopy at h
  split at h
  · split at h
    · split at h
      · split at h
        · obtain rfl := Option.some.inj h; intro x hx; simp at hx
        · split at h
          · split at h
            · rename_i ob xs c rd hob hsrc
              split at h
              · obtain rfl := Option.some.inj h; intro x hx; simp at hx; subst hx; exact .inr (by simp [hob])
              · simp at h
            · simp at h
          · simp at h
      · simp at h
    · simp at h
  · simp at h
theorem opLookup_up {t : TypeId} {ok : Bool} {x y : U} (h : opLookup P g t ok x y = some r) : r.up = [] := by
  unfold opLookup at h
  repeat' split at h
  all_goals first | (simp at h; done) | (obtain ⟨d, hd, rfl⟩ := Option.map_eq_some_iff.1 h; rfl)
theorem opLenG_up {t : TypeId} {u : U} (h : opLenG P g t u = some r) : r.up = [] := by
  unfold opLenG at h
  split at h
  · repeat' split at h
    all_goals first | (simp at h; done) | (obtain rfl := Option.some.inj h; rfl)
  · exact opLen_up h
theorem opMakeMap_up {t : TypeId} (h : opMakeMap id t = some r) : ∀ x ∈ r.up.map (·.1), x = id ∨ g x ≠ none := by
  unfold opMakeMap at h
  obtain rfl := Option.some.inj h
  intro x hx
  simp at hx
  exact .inl hx
theorem opMapUpdate_up {t : TypeId} {m k x : U} (h : opMapUpdate P g t m k x = some r) : ∀ x ∈ r.up.map (·.1), x = id ∨ g x ≠ none := by
  unfold opMapUpdate at h
  split at h
  · split at h
    · rename_i ob hob
      split at h
      · split at h
        · split at h
          · split at h
            · obtain rfl := Option.some.inj h; intro x hx; simp at hx; subst hx; exact .inr (by simp [hob])
            · simp at h
          · simp at h
        · obtain rfl := Option.some.inj h; intro x hx; simp at hx; subst hx; exact .inr (by simp [hob])
        · simp at h
      · simp at h
    · simp at h
  · simp at h
theorem opStep_up {o : Oper} (h : opStep P g id tm o = some r) : ∀ x ∈ r.up.map (·.1), x = id ∨ g x ≠ none := by
  have nil : ∀ {r : Res}, r.up = [] → ∀ x ∈ r.up.map (·.1), x = id ∨ g x ≠ none := fun e x hx => by rw [e] at hx; simp at hx
  have hb : ∀ {f : U → Option Res} {x : Option U} {Q : Prop}, x.bind f = some r → (∀ u, f u = some r → Q) → Q := by
    intro f x Q h hf
    cases x with
    | none => simp at h
    | some u => exact hf u h
  unfold opStep at h
  split at h
  all_goals try exact nil (opPure_up h)
  all_goals try (obtain ⟨d, hd, rfl⟩ := Option.map_eq_some_iff.1 h; exact nil rfl)
  all_goals try exact nil (opBuild_up h)
  all_goals try exact opBuildSlice_up h
  all_goals try exact hb h fun u hu => opAlloc_up hu
  all_goals try exact hb h fun u hu => nil (opLoad_up hu)
  all_goals try exact hb h fun u hu => hb hu fun v hv => opStore_up hv
  all_goals try exact hb h fun u hu => nil (opFieldAddr_up hu)
  all_goals try exact hb h fun u hu => nil (opField_up hu)
  all_goals try exact hb h fun u hu => hb hu fun v hv => nil (opIndexAddr_up hv)
  all_goals try exact hb h fun u hu => hb hu fun v hv => opMakeSlice_up hv
  all_goals try exact opMakeMap_up h
  all_goals try exact hb h fun u hu => hb hu fun v hv => hb hv fun z hz => opMapUpdate_up hz
  · split at h
    all_goals first | (simp at h; done) | (obtain ⟨d, hd, rfl⟩ := Option.map_eq_some_iff.1 h; exact nil rfl)
  · obtain ⟨z, hz, h⟩ := Option.bind_eq_some_iff.1 h
    exact opAlloc_up h
  · split at h
    all_goals first | (simp at h; done) | (obtain rfl := Option.some.inj h; exact nil rfl)
  · split at h
    · rename_i r' hr; obtain rfl := Option.some.inj h; exact nil (opPure_up hr)
    · exact hb h fun u hu => hb hu fun v hv => nil (opIndex_up hv)
  · split at h
    · rename_i r' hr; obtain rfl := Option.some.inj h; exact nil (opPure_up hr)
    · exact hb h fun u hu => nil (opSlice_up hu)
  · split at h
    all_goals first | (simp at h; done) | (obtain ⟨d, hd, rfl⟩ := Option.map_eq_some_iff.1 h; exact nil rfl)
  · split at h
    all_goals first | (simp at h; done) | (obtain ⟨d, hd, rfl⟩ := Option.map_eq_some_iff.1 h; exact nil rfl)
  · split at h
    · rename_i r' hr; obtain rfl := Option.some.inj h; exact nil (opPure_up hr)
    · exact hb h fun u hu => hb hu fun v hv => nil (opLookup_up hv)
  · split at h
    · rename_i r' hr; obtain rfl := Option.some.inj h; exact nil (opPure_up hr)
    · exact hb h fun u hu => hb hu fun v hv => nil (opEql_up hv)
  · split at h
    · rename_i r' hr; obtain rfl := Option.some.inj h; exact nil (opPure_up hr)
    · exact hb h fun u hu => hb hu fun v hv => nil (opEql_up hv)
  · split at h
    · rename_i r' hr; obtain rfl := Option.some.inj h; exact nil (opPure_up hr)
    · exact hb h fun u hu => opConvert_up hu
  · split at h
    · exact hb h fun u hu => hb hu fun v hv => opAppend_up hv
    · split at h
      · rename_i r' hr; obtain rfl := Option.some.inj h; exact nil (opPure_up hr)
      · exact hb h fun u hu => nil (opLenG_up hu)
    · exact hb h fun u hu => opClear_up hu
    · exact hb h fun u hu => hb hu fun v hv => opCopy_up hv
    · exact nil (opPure_up h)
theorem bring_up {st : Store} {ow : Bool} {u : U} {q : U × List (Nat × Obj)} (h : bring st ow id u = some q) : ∀ x ∈ q.2.map (·.1), x = id := by
  simp only [bring, forceDN_eq, forceD_eq] at h
  split at h
  · repeat' split at h
    all_goals first | (simp at h; done) | (obtain rfl := Option.some.inj h; intro x hx; simp at hx; exact hx)
  · split at h
    · obtain rfl := Option.some.inj h
      intro x hx; simp at hx
    · simp at h
theorem bringAll_up {st : Store} {ow : Bool} {l : List U} {q : List U × List (Nat × Obj)} (h : bringAll st ow id l = some q) : ∀ x ∈ q.2.map (·.1), x = id := by
  cases l with
  | nil => simp [bringAll] at h; subst h; intro x hx; simp at hx
  | cons u l =>
    simp only [bringAll, forceDN_eq] at h
    split at h
    · rename_i v a l' h1 h2
      obtain rfl := Option.some.inj h
      intro x hx
      simp only [List.map_map] at hx
      exact bring_up h1 x (by simpa [Function.comp_def] using hx)
    · simp at h
end
theorem getO_mem' {s : Store} {o : Nat} (h : getO s o ≠ none) : ∃ p ∈ s, p.1 = o := by
  induction s with
  | nil => simp [getO] at h
  | cons a r ih =>
    obtain ⟨o', e⟩ := a
    simp only [getO] at h
    split at h
    · rename_i e; exact ⟨_, List.mem_cons_self, e⟩
    · obtain ⟨p, hp, e⟩ := ih h; exact ⟨p, List.mem_cons_of_mem _ hp, e⟩
theorem gr_of_B {st : Store} {nx : Nat} {st' : Store} {nx' : Nat} (h : grB st nx st' nx' = true) : Gr st nx st' nx' := by
  unfold grB at h
  simp only [Bool.and_eq_true, List.all_eq_true, Bool.or_eq_true, Nat.ble_eq] at h
  obtain ⟨⟨h1, h2⟩, h3⟩ := h
  refine ⟨h1, fun x hx => ?_, fun x hx => ?_⟩
  · obtain ⟨p, hp, rfl⟩ := getO_mem' hx
    have := h2 p hp
    intro e
    rw [e] at this
    simp at this
  · obtain ⟨p, hp, rfl⟩ := getO_mem' hx
    rcases h3 p hp with h4 | h4
    · left
      intro e
      rw [e] at h4
      simp at h4
    · exact .inr ⟨h4.1, h4.2⟩
def GrAt (P : Program) (an : An) (k : Nat) : Prop :=
  (∀ f us st nx u st' nx', pcall P an k f us st nx = some (u, st', nx') → Gr st nx st' nx') ∧
  (∀ id f us g nx r, docall P an k id f us g nx = some r → UpOk id nx g r) ∧
  (∀ id o tm g nx r, oper P an k id o tm g nx = some r → UpOk id nx g r) ∧
  (∀ ops base l i s rs s' rs', opers P an k ops base l i s rs = some (s', rs') → base + 8 * (i + l.length) ≤ s.nx → Gr s.st base s'.st s'.nx ∧ s.nx ≤ s'.nx) ∧
  (∀ c s x s', exec P an k c s = some (x, s') → Gr s.st s.nx s'.st s'.nx)
theorem gr_all (P : Program) (an : An) : ∀ k, GrAt P an k := by
  intro k
  induction k with
  | zero =>
    refine ⟨?_, ?_, ?_, ?_, ?_⟩
    · intro f us st nx u st' nx' h; simp [pcall] at h
    · intro id f us g nx r h; simp [docall] at h
    · intro id o tm g nx r h; simp [oper] at h
    · intro ops base l i s rs s' rs' h; simp [opers] at h
    · intro c s x s' h; simp [exec] at h
  | succ k ih =>
    obtain ⟨ih1, ih2, ih3, ih4, ih5⟩ := ih
    refine ⟨?_, ?_, ?_, ?_, ?_⟩
    · intro f us st nx u st' nx' h
      simp only [pcall, forceL_eq] at h
      split at h
      · split at h
        · rename_i hg
          simp only [Option.some.injEq, Prod.mk.injEq] at h
          obtain ⟨rfl, rfl, rfl⟩ := h
          exact gr_of_B hg
        · simp at h
      · split at h
        · simp at h
        split at h
        · simp at h
        · split at h
          · rename_i fn hfn c hc x s hs
            have hg := ih5 _ _ _ _ hs
            split at h
            · split at h
              · simp at h; obtain ⟨_, rfl, rfl⟩ := h; exact hg
              · simp at h; obtain ⟨_, rfl, rfl⟩ := h; exact hg
              · simp at h
            · simp at h
          · simp at h
    · intro id f us g nx r h
      simp only [docall, forceUN_eq, forceDN_eq, forceNs_eq, forceUp_eq, forceL_eq] at h
      split at h
      · split at h
        · simp at h
        · rename_i vs hvs
          split at h
          · split at h
            · rename_i u st' nx' hp
              obtain rfl := Option.some.inj h
              have hg := ih1 _ _ _ _ _ _ _ hp
              refine ⟨hg.le, fun e => by simp at e, fun x hx => ?_⟩
              simp only [List.map_append, List.mem_append] at hx
              rcases hx with hx | hx
              · exact .inr (.inr (snap_ids hx).2)
              · rcases hg.news x (asUp_ids hx) with h1 | h1
                · rw [getO_sub] at h1
                  split at h1
                  · rcases updF_from _ _ _ h1 with h2 | h2
                    · exact .inr (.inr (snap_ids h2).2)
                    · exact .inr (.inr h2)
                  · exact absurd rfl h1
                · exact .inr (.inl ⟨rfl, h1⟩)
            · simp at h
          · simp at h
      · split at h
        · simp at h
        · rename_i ds hds
          split at h
          · obtain rfl := Option.some.inj h
            exact ⟨Nat.le_refl _, fun _ => rfl, fun x hx => .inr (.inr (snap_ids hx).2)⟩
          split at h
          · rename_i u st' nx' hp
            split at h
            · obtain ⟨q, hq, rfl⟩ := Option.map_eq_some_iff.1 h
              refine ⟨Nat.le_refl _, fun _ => rfl, fun x hx => ?_⟩
              simp only [List.map_append, List.mem_append] at hx
              rcases hx with hx | hx
              · exact .inr (.inr (snap_ids hx).2)
              · exact .inl (bringAll_up hq x hx)
            · obtain ⟨q, hq, rfl⟩ := Option.map_eq_some_iff.1 h
              refine ⟨Nat.le_refl _, fun _ => rfl, fun x hx => ?_⟩
              simp only [List.map_append, List.mem_append] at hx
              rcases hx with hx | hx
              · exact .inr (.inr (snap_ids hx).2)
              · exact .inl (bring_up hq x hx)
          · simp at h
    · intro id o tm g nx r h
      simp only [oper] at h
      split at h
      · obtain rfl := Option.some.inj h
        exact ⟨Nat.le_refl _, fun _ => rfl, fun x hx => by simp at hx⟩
      split at h
      · rename_i r' hr
        obtain rfl := Option.some.inj h
        refine ⟨Nat.le_refl _, fun _ => rfl, fun x hx => ?_⟩
        rcases opStep_up hr x hx with h1 | h1
        · exact .inl h1
        · exact .inr (.inr h1)
      · split at h
        · split at h
          · split at h
            · exact ih2 _ _ _ _ _ _ h
            · simp at h
          · simp at h
        · simp at h
    · intro ops base l i s rs s' rs' h hb
      cases l with
      | nil =>
        simp only [opers, Option.some.injEq, Prod.mk.injEq] at h
        obtain ⟨rfl, rfl⟩ := h
        exact ⟨⟨by omega, fun _ h => h, fun _ h => .inl h⟩, Nat.le_refl _⟩
      | cons o rest =>
        simp only [opers, forceN_eq, forceCR_eq, forceT_eq, forceL_eq, putK_eq, storeK_eq] at h
        simp only [List.length_cons] at hb
        split at h
        · split at h
          · rename_i r hr
            have hu := ih3 _ _ _ _ _ _ hr
            obtain ⟨hg, hle⟩ := ih4 _ _ _ _ _ _ _ _ h (by simp only; have := hu.le; omega)
            have hul := hu.le
            simp only at hg hle
            refine ⟨⟨hg.le, fun x hx => ?_, fun x hx => ?_⟩, by omega⟩
            · apply hg.keeps
              rw [getO_setAll]
              exact updF_keeps _ _ _ hx
            · rcases hg.news x hx with h1 | h1
              · rw [getO_setAll] at h1
                rcases updF_from _ _ _ h1 with h2 | h2
                · rcases hu.up x h2 with h3 | ⟨_, h3, h4⟩ | h3
                  · exact .inr ⟨by omega, by omega⟩
                  · exact .inr ⟨by omega, by omega⟩
                  · exact .inl h3
                · exact .inl h2
              · exact .inr h1
          · simp at h
        · have := ih4 _ _ _ _ _ _ _ _ h (by show base + 8 * (i + 1 + rest.length) ≤ s.nx; omega)
          exact this
        · simp at h
    · intro c s x s' h
      cases c <;> simp only [exec, forceN_eq] at h
      case skip => simp at h; obtain ⟨_, rfl⟩ := h; exact .refl _ _
      case seq a b =>
        split at h
        · rename_i s1 h1
          exact (ih5 _ _ _ _ h1).trans (ih5 _ _ _ _ h)
        · exact ih5 _ _ _ _ h
      case cond c a b =>
        split at h
        · split at h
          · exact ih5 _ _ _ _ h
          · exact ih5 _ _ _ _ h
        · simp at h
      case block id b =>
        split at h
        · rename_i j s1 h1
          split at h <;> (simp at h; obtain ⟨_, rfl⟩ := h; exact ih5 _ _ _ _ h1)
        · exact ih5 _ _ _ _ h
      case loop b =>
        split at h
        · rename_i s1 h1
          exact (ih5 _ _ _ _ h1).trans (ih5 _ _ _ _ h)
        · exact ih5 _ _ _ _ h
      case exit id => simp at h; obtain ⟨_, rfl⟩ := h; exact .refl _ _
      case ret => simp at h; obtain ⟨_, rfl⟩ := h; exact .refl _ _
      case region id ops draw =>
        split at h
        · rename_i s1 rs h1
          split at h
          · simp at h
            obtain ⟨_, rfl⟩ := h
            have hg := (ih4 _ _ _ _ _ _ _ _ h1 (by simp)).1
            exact hg
          · simp at h
        · simp at h
      all_goals simp at h
end Go.Proofs.YtjofhegodknmaaaGreat.V
namespace Go.Proofs.YtjofhegodknmaaaGreat.V
open Go
variable [Sig]
def CallPost (w : World) (F : Mem) (L : Lay) (b0 : Nat) (g : Nat → Option Obj) (u : U) : Ending → World → Prop := fun e w' =>
  ∃ v F' L', e = .returned v ∧ Evo w F L w' F' L' ∧ SR w' F' L' b0 g ∧ RepU F' L' u v
def Args (F : Mem) (L : Lay) (us : List U) (vs : List Value) : Prop :=
  vs.length = us.length ∧ ∀ (i : Nat) u v, us[i]? = some u → vs[i]? = some v → RepU F L u v
def PcOk (P : Program) (an : An) (k : Nat) : Prop :=
  ∀ f us st nx u st' nx' w F L b0 vs, pcall P an k f us st nx = some (u, st', nx') → SR w F L b0 (getO st) → Args F L us vs →
    (∀ x, nx ≤ x → getO st x = none) → b0 ≤ w.heap.size → Calls P f vs.toArray w (CallPost w F L b0 (getO st') u)
structure Holds (P : Program) (f : Nat) (ds rs : List D) : Prop where
  body : ∃ fn c, P.funcs[f]? = some fn ∧ fn.body = some c
  calls : ∀ (w : World) (F : Mem) (vs : List Value), (∀ a v, F a = some v → w.cell? a = some v) → Args F none0 (ds.map .dat) vs →
    Calls P f vs.toArray w fun e w' => ∃ v F' L', e = .returned v ∧ Evo w F none0 w' F' L' ∧ (∀ a v, F' a = some v → w'.cell? a = some v) ∧ RepU F' none0 (resD rs) v
structure CallHolds (P : Program) (f : Nat) (us : List U) (st : Store) (nx : Nat) (u : U) (st' : Store) : Prop where
  body : ∃ fn c, P.funcs[f]? = some fn ∧ fn.body = some c
  calls : ∀ (w : World) (F : Mem) (L : Lay) (b0 : Nat) (vs : List Value), SR w F L b0 (getO st) → Args F L us vs → (∀ x, nx ≤ x → getO st x = none) → b0 ≤ w.heap.size →
    Calls P f vs.toArray w (CallPost w F L b0 (getO st') u)
def CallOk (P : Program) (an : An) : Prop := ∀ f us st nx u st' nx', an.call f us st nx = some (u, st', nx') → CallHolds P f us st nx u st'
def SpecOk (P : Program) (an : An) : Prop := ∀ f ds rs, an.spec f ds = some rs → Holds P f ds rs
section
variable {w w' : World} {F F1 F2 : Mem} {L L0 : Lay} {b0 : Nat} {g g1 : Nat → Option Obj}
def addLay (L : Lay) (id : Nat) (i : Info) : Lay := fun x => if x = id then some i else L x
theorem addLay_le {L : Lay} {id : Nat} {i : Info} (h : L id = none) : LLe L (addLay L id i) := have _s : Sig := inferInstance; fun o j hj => by
  refine ⟨j, ?_, .inl rfl⟩
  have : o ≠ id := fun e => by rw [e, h] at hj; simp at hj
  simp [addLay, this, hj]
theorem SR.takes {id : Nat} {i : Info} {ob : Obj} {arr : Array Value} (h : SR w' F2 L b0 g) (hid : g id = none) (h0 : ob.gen = i.gen) (he : i.esz = ob.esz) (hs : 0 < ob.esz → i.size = arr.size) (hb : b0 ≤ i.blk)
    (hh : ObjAt w' i.blk arr ob) (hl : ob.cells.length ≤ arr.size)
    (hc : ∀ (j : Nat) u, ob.cells[j]? = some u → (0 < ob.esz → u.one = true) ∧ ∃ v, arr[j]? = some v ∧ RepU F2 L u v)
    (hf : ∀ off, (ob.snap = true → ob.cells.length ≤ off) → F2 ⟨i.blk, off, none⟩ = none) (hn : ∀ o j, L o = some j → j.blk ≠ i.blk) :
    SR w' F2 (addLay L id i) b0 (updF g [(id, ob)]) := by
  have hLid : L id = none := h.non id hid
  have hle := addLay_le (i := i) hLid
  refine ⟨h.mem, fun o ho => ?_, fun o ob' ho => ?_, fun o o' j j' hj hj' e => ?_⟩
  · simp only [updF] at ho
    by_cases e : o = id
    · subst e; simp at ho
    · simp only [if_neg e] at ho
      simp only [addLay, if_neg e]
      exact h.non o ho
  · simp only [updF] at ho
    by_cases e : o = id
    · subst e
      simp at ho
      subst ho
      exact ⟨i, arr, by simp [addLay], h0.symm, he, hs, hb, hh, hl, fun j u hu => let ⟨h1, v, hv, hr⟩ := hc j u hu; ⟨h1, v, hv, hr.mono (.refl _) hle⟩, hf⟩
    · simp only [if_neg e] at ho
      obtain ⟨i', arr', hL, r1, r2, r3, r4, hh', r5, hcs, hfr⟩ := h.obj o ob' ho
      exact ⟨i', arr', by simp [addLay, e, hL], r1, r2, r3, r4, hh', r5, fun j u hu => let ⟨h1, v, hv, hr⟩ := hcs j u hu; ⟨h1, v, hv, hr.mono (.refl _) hle⟩, hfr⟩
  · simp only [addLay] at hj hj'
    by_cases e1 : o = id
    · by_cases e2 : o' = id
      · rw [e1, e2]
      · rw [if_pos e1] at hj
        rw [if_neg e2] at hj'
        obtain rfl := Option.some.inj hj
        exact absurd e.symm (hn o' j' hj')
    · by_cases e2 : o' = id
      · rw [if_neg e1] at hj
        rw [if_pos e2] at hj'
        obtain rfl := Option.some.inj hj'
        exact absurd e (hn o j hj)
      · rw [if_neg e1] at hj
        rw [if_neg e2] at hj'
        exact h.inj o o' j j' hj hj' e
theorem Evo.takes {id : Nat} {i : Info} (h : Evo w F L w' F2 L) (hid : L id = none) (hb : w.heap.size ≤ i.blk) : Evo w F L w' F2 (addLay L id i) where
  size := h.size
  os := h.os
  tape := h.tape
  output := h.output
  memLe := h.memLe
  layLe := addLay_le hid
  frame := h.frame
  newMem := h.newMem
  newObj := fun o j hj => by
    simp only [addLay] at hj
    by_cases e : o = id
    · rw [if_pos e] at hj; obtain rfl := Option.some.inj hj; exact .inr hb
    · rw [if_neg e] at hj; exact .inl ⟨o, j, hj, rfl⟩
def snapUp (sn : Bool) (l : List (Nat × Obj)) : List (Nat × Obj) := if sn then l.map (fun p => (p.1, { p.2 with snap := true })) else l
theorem bring_ok {st' : Store} {L' : Lay} {F' : Mem} {id : Nat} {ow : Bool} {u : U} {v : Value} {q : U × List (Nat × Obj)}
    (hS : SR w F1 L b0 g) (hid : g id = none) (hE : Evo w F1 none0 w' F' L') (hS' : SR w' F' L' w.heap.size (getO st')) (hb : b0 ≤ w.heap.size) (hr : RepU F' L' u v) (h : bring st' ow id u = some q) :
    ∃ S : List Nat, ∀ S', (∀ x ∈ S, x ∈ S') → ∀ sn : Bool, (sn = false → S' = S) → ∃ L2, SR w' (FS F' w' L' (getO st') S') L2 b0 (updF g (snapUp sn q.2)) ∧ RepU (FS F' w' L' (getO st') S') L2 q.1 v ∧
      (∀ F, Evo w F L w F1 L → Evo w F L w' (FS F' w' L' (getO st') S') L2) ∧ LLe L L2 := by
  have hdat : ∀ d, toD (getO st') 40 u = some d → q = (.dat d.1, []) → ∃ S : List Nat, ∀ S', (∀ x ∈ S, x ∈ S') → ∀ sn : Bool, (sn = false → S' = S) → ∃ L2, SR w' (FS F' w' L' (getO st') S') L2 b0 (updF g (snapUp sn q.2)) ∧ RepU (FS F' w' L' (getO st') S') L2 q.1 v ∧
      (∀ F, Evo w F L w F1 L → Evo w F L w' (FS F' w' L' (getO st') S') L2) ∧ LLe L L2 := by
    intro d hd hq
    subst hq
    refine ⟨d.2, fun S' hS0 sn _ => ⟨L, ?_, ?_, fun F hF => ?_, .refl _⟩⟩
    · have hs := hS'.snapped S'
      have e0 : snapUp sn ([] : List (Nat × Obj)) = [] := by cases sn <;> rfl
      rw [e0]
      exact hS.after (hE.trans hs.2) hs.1.mem
    · exact .dat _ _ ((toD_rep hS' 40 u v d hd hr).mono (FS_mono hS0))
    · exact hF.after (hE.trans (hS'.snapped S').2)
  simp only [bring, forceDN_eq, forceD_eq] at h
  split at h
  · rename_i o gn n
    split at h
    · rename_i ob hob
      split at h
      · rename_i hc
        split at h
        · rename_i ds hds
          obtain rfl := Option.some.inj h
          obtain ⟨i, arr, hL, r1, r2, r3, r4, hh, r5, hcs, hfr⟩ := hS'.obj o ob hob
          refine ⟨ds.flatMap (·.2), fun S' hS0 sn hsn => ?_⟩
          have hs := hS'.snapped S'
          have hE2 := hE.trans hs.2
          have hA := hS.after hE2 hs.1.mem
          have hLid := hS.non id hid
          obtain ⟨ob2, hob2, hc2, ht2, hsn2⟩ : ∃ ob2, updF (getO st') (snapAll (getO st') S') o = some ob2 ∧ ob2.cells = ob.cells ∧ ob2.ty = ob.ty ∧ (ob2.snap = true → ob.snap = true ∨ o ∈ S') := by
            rw [updF_snap (getO st') S' (getO st') (fun _ => .inl rfl)]
            by_cases ho : o ∈ S'
            · rw [if_pos ho, hob]; exact ⟨_, rfl, rfl, rfl, fun _ => .inr ho⟩
            · rw [if_neg ho, hob]; exact ⟨ob, rfl, rfl, rfl, fun h => .inl h⟩
          obtain ⟨i', arr', hL', _, _, _, _, hh', _, _, hfr'⟩ := hs.1.obj o _ hob2
          rw [hL] at hL'
          obtain rfl := Option.some.inj hL'
          obtain rfl := hh.inj hh'
          have hblk : ∀ o' j, L o' = some j → j.blk ≠ i.blk := by
            intro o' j hj e
            cases hg : g o' with
            | none => rw [hS.non o' hg] at hj; simp at hj
            | some ob' =>
              obtain ⟨j', arr2, hj', _, _, _, _, hh2, _⟩ := hS.obj o' ob' hg
              rw [hj] at hj'
              obtain rfl := Option.some.inj hj'
              have := hh2.lt
              omega
          have hlen : ds.length = ob.cells.length := (mapM_some hds).1
          have hup : snapUp sn [(id, { ob with gen := 0, snap := ob.snap || (ds.flatMap (·.2)).contains o, cells := ds.map fun d => .dat d.1 })] = [(id, { ob with gen := 0, snap := sn || (ob.snap || (ds.flatMap (·.2)).contains o), cells := ds.map fun d => .dat d.1 })] := by
            cases sn <;> simp [snapUp]
          rw [hup]
          refine ⟨addLay L id ⟨0, i.blk, i.size, i.esz⟩, ?_, ?_, fun F hF => ?_, addLay_le hLid⟩
          · refine hA.takes (i := ⟨0, i.blk, i.size, i.esz⟩) (arr := arr) hid rfl r2 r3 (by have := r4; simp only; omega) (hh.like rfl rfl (by simp [hlen])) (by simp [hlen]; exact r5) (fun j x hx => ?_) (fun off hoff => ?_) hblk
            · simp only [List.getElem?_map] at hx
              obtain ⟨d, hd, rfl⟩ := Option.map_eq_some_iff.1 hx
              obtain ⟨y, hy, hyd⟩ := mapM_back hds hd
              obtain ⟨h1, x, hx, hrx⟩ := hcs j y hy
              exact ⟨fun _ => toD_one 40 hyd (h1 hc.2.1), x, hx, .dat _ _ ((toD_rep hS' 40 y x d hyd hrx).mono (FS_mono fun z hz => hS0 z (List.mem_flatMap.2 ⟨d, List.mem_of_getElem? hd, hz⟩)))⟩
            · refine hfr' off (fun h2 => ?_)
              have hflag : (sn || (ob.snap || (ds.flatMap (·.2)).contains o)) = true := by
                cases sn with
                | true => rfl
                | false =>
                  rcases hsn2 h2 with h3 | h3
                  · simp [h3]
                  · rw [hsn rfl] at h3; simp only [Bool.false_or, Bool.or_eq_true, List.contains_eq_mem, decide_eq_true_eq]; exact .inr h3
              have := hoff hflag
              simp [hlen] at this
              rw [hc2]
              exact this
          · have key : ∀ (c : Nat) (hn : n ≤ c) (hc' : c * i.esz ≤ i.size), RepU (FS F' w' L' (getO st') S') (addLay L id ⟨0, i.blk, i.size, i.esz⟩) (.own id 0 0 n) (.slice (some ⟨i.blk, 0, none⟩) n c) := by
              intro c hn hc'
              have := RepU.own (F := FS F' w' L' (getO st') S') (L := addLay L id ⟨0, i.blk, i.size, i.esz⟩) id 0 n c ⟨0, i.blk, i.size, i.esz⟩ (by simp [addLay]) hn (by simpa using hc')
              simpa using this
            cases hr with
            | own _ _ _ c i' hL2 hn hc2 =>
              rw [hL] at hL2
              obtain rfl := Option.some.inj hL2
              have := key c hn (by simpa using hc2)
              simpa using this
            | ownEnd _ _ i' a hL2 => exact .ownEnd id 0 ⟨0, i.blk, i.size, i.esz⟩ a (by simp [addLay])
            | ownOld _ _ _ _ i' a c hL2 hlt =>
              rw [hL] at hL2
              obtain rfl := Option.some.inj hL2
              omega
          · exact (hF.after hE2).takes hLid r4
        · simp at h
      · simp at h
    · simp at h
  · split at h
    · rename_i d hd
      exact hdat d hd (Option.some.inj h).symm
    · simp at h
end
end Go.Proofs.YtjofhegodknmaaaGreat.V
namespace Go.Proofs.YtjofhegodknmaaaGreat.V
open Go
variable [Sig]
def cutL (L : Lay) (ids : List Nat) : Lay := fun x => if x ∈ ids then L x else none
theorem refsL_mem : ∀ {l : List U} {i : Nat} {u : U} {x : Nat}, l[i]? = some u → x ∈ refs u → x ∈ refsL l := by
  have _s : Sig := inferInstance
  intro l
  induction l with
  | nil => intro i u x h; simp at h
  | cons a l ih =>
    intro i u x h hx
    simp only [refsL, List.mem_append]
    cases i with
    | zero => simp at h; subst h; exact .inl hx
    | succ i => simp at h; exact .inr (ih h hx)
theorem RepU.cut {F : Mem} {L : Lay} {ids : List Nat} {u : U} {v : Value} (h : RepU F L u v) : (∀ x ∈ refs u, x ∈ ids) → RepU F (cutL L ids) u v := by
  induction h with
  | dat d v h => intro _; exact .dat d v h
  | ptr o p i h => intro hx; exact .ptr o p i (by simp [cutL, hx o (by simp [refs]), h])
  | ptrOld o g p i a h hg => intro hx; exact .ptrOld o g p i a (by simp [cutL, hx o (by simp [refs]), h]) hg
  | own o off n c i h hn hc => intro hx; exact .own o off n c i (by simp [cutL, hx o (by simp [refs]), h]) hn hc
  | ownEnd o off i a h => intro hx; exact .ownEnd o off i a (by simp [cutL, hx o (by simp [refs]), h])
  | ownOld o g off n i a c h hg => intro hx; exact .ownOld o g off n i a c (by simp [cutL, hx o (by simp [refs]), h]) hg
  | agg cs vs hl ho h ih => intro hx; exact .agg cs vs hl ho fun i u v hu hv => ih i u v hu hv fun x h => hx x (by simp only [refs]; exact refsL_mem hu h)
  | tup l vs hl h ih => intro hx; exact .tup l vs hl fun i u v hu hv => ih i u v hu hv fun x h => hx x (by simp only [refs]; exact refsL_mem hu h)
  | fn f caps vs hl h ih => intro hx; exact .fn f caps vs hl fun i u v hu hv => ih i u v hu hv fun x h => hx x (by simp only [refs]; exact refsL_mem hu h)
  | undef => intro _; exact .undef
  | junk v => intro _; exact .junk v
  | map o i h => intro hx; exact .map o i (by simp [cutL, hx o (by simp [refs]), h])
  | mapOld o g i r h hg => intro hx; exact .mapOld o g i r (by simp [cutL, hx o (by simp [refs]), h]) hg
theorem closed_spec {g : Nat → Option Obj} {ids : List Nat} (h : closed g ids = true) {o : Nat} {ob : Obj} (ho : o ∈ ids) (hg : g o = some ob) : ∀ x ∈ refsL ob.cells, x ∈ ids := by
  have _s : Sig := inferInstance
  intro x hx
  unfold closed at h
  rw [List.all_eq_true] at h
  have h1 := h o ho
  rw [hg] at h1
  simp only [List.all_eq_true, List.contains_eq_mem, decide_eq_true_eq] at h1
  exact h1 x hx
theorem SR.cut {w : World} {F : Mem} {L : Lay} {b0 : Nat} {g : Nat → Option Obj} (h : SR w F L b0 g) {ids : List Nat} (hc : closed g ids = true) : SR w F (cutL L ids) b0 (getO (subStore g ids)) := by
  refine ⟨h.mem, fun o ho => ?_, fun o ob ho => ?_, fun o o' i i' hi hi' e => ?_⟩
  · rw [getO_sub] at ho
    unfold cutL
    split at ho
    · rename_i hin; rw [if_pos hin]; exact h.non o ho
    · rename_i hin; rw [if_neg hin]
  · rw [getO_sub] at ho
    split at ho
    · rename_i hin
      obtain ⟨i, arr, hL, r1, r2, r3, r4, hh, r5, hcs, hfr⟩ := h.obj o ob ho
      refine ⟨i, arr, by simp [cutL, hin, hL], r1, r2, r3, r4, hh, r5, fun j u hu => ?_, hfr⟩
      obtain ⟨h1, v, hv, hr⟩ := hcs j u hu
      exact ⟨h1, v, hv, hr.cut fun x hx => closed_spec hc hin ho x (refsL_mem hu hx)⟩
    · simp at ho
  · unfold cutL at hi hi'
    split at hi
    · split at hi'
      · exact h.inj o o' i i' hi hi' e
      · simp at hi'
    · simp at hi
def orL (A B : Lay) : Lay := fun x => (A x).or (B x)
section
variable {P : Program} {an : An}
theorem docall_data {k id f : Nat} {us : List U} {g : Nat → Option Obj} {nx : Nat} {r : CallRes} {w : World} {F : Mem} {L : Lay} {b0 : Nat} {vs : List Value} (hsp : SpecOk P an) (hk : PcOk P an k)
    (hc : ¬ (us.any isPtr || an.io f || an.ior f) = true) (h : docall P an (k + 1) id f us g nx = some r) (hS : SR w F L b0 g) (hA : Args F L us vs) (hid : g id = none) (hb : b0 ≤ w.heap.size) :
    Calls P f vs.toArray w (CallPost w F L b0 (updF g r.res.up) r.res.u) := by
  simp only [docall, forceUN_eq, forceDN_eq, forceNs_eq, forceUp_eq, forceL_eq] at h
  rw [if_neg hc] at h
  split at h
  · simp at h
  · rename_i ds hds
    have hsn := hS.snapped (ds.flatMap (·.2))
    have hid1 : updF g (snapAll g (ds.flatMap (·.2))) id = none := by
      cases e : updF g (snapAll g (ds.flatMap (·.2))) id with
      | none => rfl
      | some ob =>
        rcases updF_from _ _ id (by rw [e]; simp) with h1 | h1
        · exact absurd hid (snap_ids h1).2
        · exact absurd hid h1
    have hargs : Args (FS F w L g (ds.flatMap (·.2))) none0 (ds.map fun d => U.dat d.1) vs := by
      refine ⟨by rw [hA.1, List.length_map, (mapM_some hds).1], fun i u v hu hv => ?_⟩
      rw [List.getElem?_map] at hu
      obtain ⟨d, hd, rfl⟩ := Option.map_eq_some_iff.1 hu
      obtain ⟨u', hu', hd'⟩ := mapM_back hds hd
      exact .dat _ _ ((toD_rep hS 40 u' v d hd' (hA.2 i u' v hu' hv)).mono (FS_mono fun z hz => List.mem_flatMap.2 ⟨d, List.mem_of_getElem? hd, hz⟩))
    split at h
    · rename_i rs hrs
      obtain rfl := Option.some.inj h
      have hh := hsp f _ rs hrs
      have hargs2 : Args (FS F w L g (ds.flatMap (·.2))) none0 ((ds.map (·.1)).map U.dat) vs := by rw [List.map_map]; exact hargs
      refine Calls.mono (hh.calls w _ vs hsn.1.mem hargs2) fun e w' he => ?_
      obtain ⟨v, F', L', rfl, hE, hm, hr⟩ := he
      exact ⟨v, F', L, rfl, hsn.2.after hE, hsn.1.after hE hm, hr.mono (.refl _) (fun o i hi => by simp [none0] at hi)⟩
    split at h
    · rename_i u st' nx' hp
      have hcall := hk f _ _ _ _ _ _ w (FS F w L g (ds.flatMap (·.2))) none0 w.heap.size vs hp hsn.1.start hargs (fun x _ => rfl) (Nat.le_refl _)
      split at h
      · rename_i l
        obtain ⟨q, hq, rfl⟩ := Option.map_eq_some_iff.1 h
        refine Calls.mono hcall fun e w' he => ?_
        obtain ⟨v, F', L', rfl, hE, hS', hr⟩ := he
        cases hr with
        | tup _ vals hl hR =>
          cases l with
          | nil =>
            simp only [bringAll, Option.some.injEq] at hq
            subst hq
            have hs := hS'.snapped []
            refine ⟨_, _, L, rfl, hsn.2.after (hE.trans hs.2), ?_, .tup [] vals hl (fun i u v hu => by simp at hu)⟩
            simp only [List.append_nil]
            exact hsn.1.after (hE.trans hs.2) hs.1.mem
          | cons a l =>
            simp only [bringAll, forceDN_eq] at hq
            split at hq
            · rename_i b up ds' hbr hds'
              obtain rfl := Option.some.inj hq
              obtain ⟨x, xs, rfl⟩ : ∃ x xs, vals = x :: xs := by
                cases vals with
                | nil => simp at hl
                | cons x xs => exact ⟨x, xs, rfl⟩
              obtain ⟨S, hSS⟩ := bring_ok hsn.1 hid1 hE hS' hb (hR 0 a x rfl rfl) hbr
              obtain ⟨L2, k1, k2, k3, k4⟩ := hSS (S ++ ds'.flatMap (·.2)) (fun x hx => List.mem_append_left _ hx) true (fun h => by simp at h)
              refine ⟨_, _, L2, rfl, k3 F hsn.2, ?_, .tup _ _ (by have := (mapM_some hds').1; simp at hl ⊢; omega) fun i u v hu hv => ?_⟩
              · simp only [updF_append]; exact k1
              · cases i with
                | zero => simp at hu hv; subst hu; subst hv; exact k2
                | succ i =>
                  simp only [List.getElem?_cons_succ, List.getElem?_map] at hu hv
                  obtain ⟨d, hd, rfl⟩ := Option.map_eq_some_iff.1 hu
                  obtain ⟨y, hy, hyd⟩ := mapM_back hds' hd
                  exact .dat _ _ ((toD_rep hS' 40 y v d hyd (hR (i + 1) y v (by simpa using hy) (by simpa using hv))).mono (FS_mono fun z hz => List.mem_append_right _ (List.mem_flatMap.2 ⟨d, List.mem_of_getElem? hd, hz⟩)))
            · simp at hq
      · rename_i u hne
        obtain ⟨q, hq, rfl⟩ := Option.map_eq_some_iff.1 h
        refine Calls.mono hcall fun e w' he => ?_
        obtain ⟨v, F', L', rfl, hE, hS', hr⟩ := he
        obtain ⟨S, hSS⟩ := bring_ok hsn.1 hid1 hE hS' hb hr hq
        obtain ⟨L2, k1, k2, k3, k4⟩ := hSS S (fun x hx => hx) false (fun _ => rfl)
        refine ⟨v, _, L2, rfl, k3 F hsn.2, ?_, k2⟩
        simp only [updF_append]; exact k1
    · simp at h
theorem docall_objs {k id f : Nat} {us : List U} {g : Nat → Option Obj} {nx : Nat} {r : CallRes} {w : World} {F : Mem} {L : Lay} {b0 : Nat} {vs : List Value} (hk : PcOk P an k)
    (hc : (us.any isPtr || an.io f || an.ior f) = true) (h : docall P an (k + 1) id f us g nx = some r) (hS : SR w F L b0 g) (hA : Args F L us vs) (hnx : ∀ x, nx ≤ x → g x = none) (hb : b0 ≤ w.heap.size) :
    Calls P f vs.toArray w (CallPost w F L b0 (updF g r.res.up) r.res.u) := by
  simp only [docall, forceUN_eq, forceDN_eq, forceNs_eq, forceUp_eq, forceL_eq] at h
  rw [if_pos hc] at h
  split at h
  · simp at h
  · rename_i as has
    have hsn := hS.snapped (as.flatMap (·.2))
    have hnx1 : ∀ x, nx ≤ x → updF g (snapAll g (as.flatMap (·.2))) x = none := by
      intro x hx
      cases e : updF g (snapAll g (as.flatMap (·.2))) x with
      | none => rfl
      | some ob =>
        rcases updF_from _ _ x (by rw [e]; simp) with h1 | h1
        · exact absurd (hnx x hx) (snap_ids h1).2
        · exact absurd (hnx x hx) h1
    have hargs : Args (FS F w L g (as.flatMap (·.2))) L (as.map (·.1)) vs := by
      refine ⟨by rw [hA.1, List.length_map, (mapM_some has).1], fun i u v hu hv => ?_⟩
      rw [List.getElem?_map] at hu
      obtain ⟨d, hd, rfl⟩ := Option.map_eq_some_iff.1 hu
      obtain ⟨u', hu', hd'⟩ := mapM_back has hd
      unfold argIo at hd'
      split at hd'
      · obtain rfl := Option.some.inj hd'
        exact (hA.2 i u' v hu' hv).mono (FS_le _ _ _ _ _) (.refl _)
      · obtain ⟨d', hd2, rfl⟩ := Option.map_eq_some_iff.1 hd'
        exact .dat _ _ ((toD_rep hS 40 u' v d' hd2 (hA.2 i u' v hu' hv)).mono (FS_mono fun z hz => List.mem_flatMap.2 ⟨_, List.mem_of_getElem? hd, hz⟩))
    split at h
    · rename_i hcl
      simp only [Bool.and_eq_true, List.all_eq_true, List.contains_eq_mem, decide_eq_true_eq] at hcl
      obtain ⟨hcl, hin⟩ := hcl
      generalize hids : reach (updF g (snapAll g (as.flatMap (·.2)))) 400 (refsL (as.map (·.1))) [] = ids at h hcl hin
      generalize hg1 : updF g (snapAll g (as.flatMap (·.2))) = g1 at h hcl hnx1 hsn hids
      generalize hF1 : FS F w L g (as.flatMap (·.2)) = F1 at hsn hargs
      obtain ⟨hS1, hE1⟩ := hsn
      split at h
      · rename_i u st' nx' hp
        obtain rfl := Option.some.inj h
        have hg := (gr_all P an k).1 _ _ _ _ _ _ _ hp
        have hargs' : Args F1 (cutL L ids) (as.map (·.1)) vs := ⟨hargs.1, fun i u v hu hv => (hargs.2 i u v hu hv).cut fun x hx => hin x (refsL_mem hu hx)⟩
        have hcall := hk f _ _ _ _ _ _ w F1 (cutL L ids) b0 vs hp (hS1.cut hcl) hargs' (fun x hx => by rw [getO_sub]; split <;> simp [hnx1 x hx]) hb
        refine Calls.mono hcall fun e w' he => ?_
        obtain ⟨v, F', L', rfl, hE, hS', hr⟩ := he
        have fA : ∀ x i, L' x = some i → x ∈ ids ∨ L x = none := by
          intro x i hx
          have h1 : getO st' x ≠ none := fun e => by rw [hS'.non x e] at hx; simp at hx
          rcases hg.news x h1 with h2 | h2
          · rw [getO_sub] at h2
            split at h2
            · rename_i hh; exact .inl hh
            · exact absurd rfl h2
          · exact .inr (hS1.non x (hnx1 x h2.1))
        have le1 : LLe L (orL L' L) := by
          intro o i hi
          cases e : L' o with
          | none => exact ⟨i, by simp [orL, e, hi], .inl rfl⟩
          | some i' =>
            rcases fA o i' e with h1 | h1
            · obtain ⟨j, hj, hr⟩ := hE.layLe o i (by simp [cutL, h1, hi])
              exact ⟨j, by simp [orL, hj], hr⟩
            · rw [h1] at hi; simp at hi
        have le2 : LLe L' (orL L' L) := fun o i hi => ⟨i, by simp [orL, hi], .inl rfl⟩
        have cutSome : ∀ o i, cutL L ids o = some i → o ∈ ids ∧ L o = some i := by
          intro o i hi
          unfold cutL at hi
          split at hi
          · rename_i hh; exact ⟨hh, hi⟩
          · simp at hi
        have apartB : ∀ o i, L o = some i → o ∉ ids → ∀ o' i', cutL L ids o' = some i' → i'.blk ≠ i.blk := by
          intro o i hi ho o' i' hi' e
          obtain ⟨h1, h2⟩ := cutSome o' i' hi'
          have := hS1.inj o' o i' i h2 hi e
          subst this
          exact ho h1
        have lt : ∀ o i, L o = some i → i.blk < w.heap.size := by
          intro o i hi
          cases e : g1 o with
          | none => rw [hS1.non o e] at hi; simp at hi
          | some ob =>
            obtain ⟨j, arr, hj, _, _, _, _, hh, _⟩ := hS1.obj o ob e
            rw [hi] at hj
            obtain rfl := Option.some.inj hj
            exact hh.lt
        have notIn : ∀ o i, L o = some i → L' o = none → o ∉ ids := by
          intro o i hi hn hin
          obtain ⟨j, hj, _⟩ := hE.layLe o i (by simp [cutL, hin, hi])
          rw [hn] at hj; simp at hj
        have hview : ∀ x, updF g (snapAll g (as.flatMap (·.2)) ++ asUp st') x = (getO st' x).or (g1 x) := by
          intro x
          rw [updF_append, hg1, updF_asUp]
        refine ⟨v, F', orL L' L, rfl, ⟨hE.size, hE.os, hE.tape, hE.output, hE1.memLe.trans hE.memLe, le1, fun k hk hn => ?_, fun a ha => ?_, fun o i hi => ?_⟩, ⟨hS'.mem, fun o ho => ?_, fun o ob ho => ?_, fun o o' i i' hi hi' e => ?_⟩, hr.mono (.refl _) le2⟩
        · exact hE.frame k hk fun o i hi => hn o i (cutSome o i hi).2
        · by_cases e : F1 a = F a
          · rcases hE.newMem a (by rw [e]; exact ha) with h1 | ⟨o, i, h1, h2⟩
            · exact .inl h1
            · exact .inr ⟨o, i, (cutSome o i h1).2, h2⟩
          · exact hE1.newMem a e
        · cases e : L' o with
          | none => simp [orL, e] at hi; exact .inl ⟨o, i, hi, rfl⟩
          | some j =>
            simp [orL, e] at hi
            subst hi
            rcases hE.newObj o j e with ⟨o', i', h1, h2⟩ | h1
            · exact .inl ⟨o', i', (cutSome o' i' h1).2, h2⟩
            · exact .inr h1
        · rw [hview] at ho
          simp at ho
          simp [orL, hS'.non o ho.1, hS1.non o ho.2]
        · rw [hview] at ho
          cases e : getO st' o with
          | some ob' =>
            rw [e] at ho
            simp at ho
            subst ho
            obtain ⟨i, arr, hL, r1, r2, r3, r4, hh, r5, hcs, hfr⟩ := hS'.obj o ob' e
            exact ⟨i, arr, by simp [orL, hL], r1, r2, r3, r4, hh, r5, fun j u hu => let ⟨h1, v, hv, hr⟩ := hcs j u hu; ⟨h1, v, hv, hr.mono (.refl _) le2⟩, hfr⟩
          | none =>
            rw [e] at ho
            simp at ho
            obtain ⟨i, arr, hL, r1, r2, r3, r4, hh, r5, hcs, hfr⟩ := hS1.obj o ob ho
            have hnin := notIn o i hL (hS'.non o e)
            refine ⟨i, arr, by simp [orL, hS'.non o e, hL], r1, r2, r3, r4, ?_, r5, fun j u hu => let ⟨h1, v, hv, hr⟩ := hcs j u hu; ⟨h1, v, hv, hr.mono hE.memLe le1⟩, fun off hoff => ?_⟩
            · exact hh.same (hE.frame i.blk (lt o i hL) fun o' i' hi' => apartB o i hL hnin o' i' hi')
            · by_cases e2 : F' ⟨i.blk, off, none⟩ = F1 ⟨i.blk, off, none⟩
              · rw [e2]; exact hfr off hoff
              · rcases hE.newMem _ e2 with h1 | ⟨o', i', h1, h2⟩
                · have := lt o i hL; simp at h1; omega
                · exact absurd h2 (apartB o i hL hnin o' i' h1)
        · -- one place, one object
          have mixed : ∀ o o' i i', L' o = some i → L' o' = none → L o' = some i' → i.blk = i'.blk → False := by
            intro o o' i i' h1 h2 h3 h4
            have hnin := notIn o' i' h3 h2
            rcases hE.newObj o i h1 with ⟨o2, i2, h5, h6⟩ | h5
            · exact apartB o' i' h3 hnin o2 i2 h5 (by omega)
            · have := lt o' i' h3; omega
          cases e1 : L' o with
          | some a =>
            simp [orL, e1] at hi
            subst hi
            cases e2 : L' o' with
            | some b =>
              simp [orL, e2] at hi'
              subst hi'
              exact hS'.inj o o' a b e1 e2 e
            | none =>
              simp [orL, e2] at hi'
              exact (mixed o o' a i' e1 e2 hi' e).elim
          | none =>
            simp [orL, e1] at hi
            cases e2 : L' o' with
            | some b =>
              simp [orL, e2] at hi'
              subst hi'
              exact (mixed o' o b i e2 e1 hi e.symm).elim
            | none =>
              simp [orL, e2] at hi'
              exact hS1.inj o o' i i' hi hi' e
      · simp at h
    · simp at h
end
end Go.Proofs.YtjofhegodknmaaaGreat.V
namespace Go.Proofs.YtjofhegodknmaaaGreat.V
open Go
def Named (P : Program) : Prop := ∀ (f : Nat) fn c, P.funcs[f]? = some fn → fn.body = some c → (fn.name == "runtime.NumGoroutine") = false
variable [Sig]
def OrcHolds (P : Program) (op : Op) (ds : List D) (d : D) : Prop :=
  ∀ (F : Mem), (∀ a v, F a = some v → a.spot = none) → ∀ (ρ : Operand → Value) (o : Oper), o.op = op → (∀ (i : Nat) (x : Operand) (e : D), op.operands.toList[i]? = some x → ds[i]? = some e → Rep F e (ρ x)) →
    ∃ v, pureSem P (execOp ρ o) = some (.value v) ∧ Rep F d v
def OrcOk (P : Program) (an : An) : Prop := ∀ op t ds d, an.orc op = some t → t ds = some d → OrcHolds P op ds d
section
variable {P : Program} {an : An}
theorem pcall_body (hcl : CallOk P an) {k f : Nat} {us : List U} {st : Store} {nx : Nat} {q : U × Store × Nat} (h : pcall P an k f us st nx = some q) : ∃ fn c, P.funcs[f]? = some fn ∧ fn.body = some c := by
  cases k with
  | zero => simp [pcall] at h
  | succ k =>
    simp only [pcall, forceL_eq] at h
    split at h
    · rename_i hq; exact (hcl _ _ _ _ _ _ _ hq).body
    split at h
    · simp at h
    · rename_i fn hfn
      split at h
      · simp at h
      · rename_i c hc; exact ⟨fn, c, hfn, hc⟩
structure Good (P : Program) (an : An) : Prop where
  named : Named P
  spec : SpecOk P an
  orc : OrcOk P an
  call : CallOk P an
theorem docall_body (hcl : CallOk P an) (hsp : SpecOk P an) {k id f : Nat} {us : List U} {g : Nat → Option Obj} {nx : Nat} {r : CallRes} (h : docall P an k id f us g nx = some r) : ∃ fn c, P.funcs[f]? = some fn ∧ fn.body = some c := by
  cases k with
  | zero => simp [docall] at h
  | succ k =>
    simp only [docall, forceUN_eq, forceDN_eq, forceNs_eq, forceUp_eq, forceL_eq] at h
    repeat' split at h
    all_goals first | (simp at h; done) | (rename_i hs; exact (hsp _ _ _ hs).body) | (rename_i hp; exact pcall_body hcl hp) | (rename_i hp _ _; exact pcall_body hcl hp) | (rename_i hp _; exact pcall_body hcl hp)
theorem docall_ok {k id f : Nat} {us : List U} {g : Nat → Option Obj} {nx : Nat} {r : CallRes} {w : World} {F : Mem} {L : Lay} {b0 : Nat} {vs : List Value} (hsp : SpecOk P an) (hk : ∀ j, j < k → PcOk P an j)
    (h : docall P an k id f us g nx = some r) (hS : SR w F L b0 g) (hA : Args F L us vs) (hid : g id = none) (hfr : r.cl = true → ∀ x, nx ≤ x → g x = none) (hb : b0 ≤ w.heap.size) :
    Calls P f vs.toArray w (CallPost w F L b0 (updF g r.res.up) r.res.u) := by
  cases k with
  | zero => simp [docall] at h
  | succ k =>
    by_cases hc : (us.any isPtr || an.io f || an.ior f) = true
    · refine docall_objs (hk k (Nat.lt_succ_self k)) hc h hS hA (hfr ?_) hb
      simp only [docall, forceUN_eq, forceDN_eq, forceNs_eq, forceUp_eq, forceL_eq] at h
      rw [if_pos hc] at h
      repeat' split at h
      all_goals first | (simp at h; done) | (obtain rfl := Option.some.inj h; rfl)
    · exact docall_data hsp (hk k (Nat.lt_succ_self k)) hc h hS hA hid hb
theorem target_ok {F : Mem} {L : Lay} {u : U} {v : Value} {n : Nat} {caps : List U} (h : targetU u = some (n, caps)) (hr : RepU F L u v) : ∃ vs : List Value, v = .func (.func n) #[] vs.toArray ∧ Args F L caps vs := by
  cases u with
  | dat d =>
    cases d with
    | fn f cs =>
      simp only [targetU, Option.some.injEq, Prod.mk.injEq] at h
      obtain ⟨rfl, rfl⟩ := h
      cases hr with
      | dat _ _ hr =>
        cases hr with
        | fn _ _ vs hl hR =>
          refine ⟨vs, rfl, by simp [hl], fun i u v hu hv => ?_⟩
          rw [List.getElem?_map] at hu
          obtain ⟨d, hd, rfl⟩ := Option.map_eq_some_iff.1 hu
          exact .dat _ _ (hR i d v hd hv)
    | _ => simp [targetU] at h
  | fn f cs =>
    simp only [targetU, Option.some.injEq, Prod.mk.injEq] at h
    obtain ⟨rfl, rfl⟩ := h
    cases hr with
    | fn _ _ vs hl hR => exact ⟨vs, rfl, hl, hR⟩
  | _ => simp [targetU] at h
theorem run_call_value {P : Program} (hN : Named P) {a : Act} {o : Oper} {c : Call} {f : Operand} {n : Nat} {vs : Array Value} {fn : Func} {b : Code} (hop : o.op = .call c) (hcal : c.callee = .value f)
    (hv : a.eval f = .func (.func n) #[] vs) (hfn : P.funcs[n]? = some fn) (hb : fn.body = some b) (w : World) :
    (execOp a.eval o).run P w = .ok (.enter n (c.args.map a.eval ++ vs)) w := by
  have _s : Sig := inferInstance
  have hn := hN n fn b hfn hb
  have hn' : fn.name ≠ "runtime.NumGoroutine" := by simpa using hn
  simp [execOp, hop, resolve, hcal, hv, Deferred.ofValue, invoke, callFunc, hfn, hb, hn', Sem.run]
theorem args_eval {F : Mem} {L : Lay} {tm : List U} {a : Act} (hT : TR F L tm a.tmps) {xs : List Operand} {us : List U} (h : xs.mapM (evalU tm) = some us) : Args F L us (xs.map a.eval) := by
  obtain ⟨h1, h2⟩ := mapM_some h
  refine ⟨by simp [h1], fun i u v hu hv => ?_⟩
  rw [List.getElem?_map] at hv
  obtain ⟨x, hx, rfl⟩ := Option.map_eq_some_iff.1 hv
  obtain ⟨u', hu', he⟩ := h2 i x hx
  rw [hu] at hu'
  obtain rfl := Option.some.inj hu'
  exact eval_rep hT he
theorem Args.append {F : Mem} {L : Lay} {us us' : List U} {vs vs' : List Value} (h : Args F L us vs) (h' : Args F L us' vs') : Args F L (us ++ us') (vs ++ vs') := by
  refine ⟨by simp [h.1, h'.1], fun i u v hu hv => ?_⟩
  by_cases hi : i < us.length
  · rw [List.getElem?_append_left hi] at hu
    rw [List.getElem?_append_left (by rw [h.1]; exact hi)] at hv
    exact h.2 i u v hu hv
  · rw [List.getElem?_append_right (by omega)] at hu
    rw [List.getElem?_append_right (by have := h.1; omega), h.1] at hv
    exact h'.2 _ u v hu hv
theorem oper_ok (hN : Good P an) {k id : Nat} {o : Oper} {tm : List U} {g : Nat → Option Obj} {nx : Nat} {r : CallRes} {w : World} {F : Mem} {L : Lay} {b0 : Nat} {a : Act} (hk : ∀ j, j < k → PcOk P an j)
    (h : oper P an k id o tm g nx = some r) (hS : SR w F L b0 g) (hT : TR F L tm a.tmps) (hid : g id = none) (hfr : r.cl = true → ∀ x, nx ≤ x → g x = none) (hb : b0 ≤ w.heap.size)
    {K : Act → World → Prop} {Q : Exit → Act → World → Prop} (hK : ∀ v w' F' L', Evo w F L w' F' L' → SR w' F' L' b0 (updF g r.res.up) → RepU F' L' r.res.u v → K (a.put o.dst v) w') : o.wp P a w K Q := by
  cases k with
  | zero => simp [oper] at h
  | succ k =>
    simp only [oper] at h
    unfold Oper.wp
    split at h
    · rename_i d hd
      obtain rfl := Option.some.inj h
      unfold orcU at hd
      split at hd
      · simp at hd
      · rename_i t ht
        obtain ⟨ds, hds, htd⟩ := Option.bind_eq_some_iff.1 hd
        obtain ⟨v, hrun, hR⟩ := hN.orc _ _ _ _ ht htd F (fun a v h => F_spot hS h) a.eval o rfl fun i x e hx he => by
          obtain ⟨x', hx', hxe⟩ := mapM_back hds he
          rw [hx] at hx'
          obtain rfl := Option.some.inj hx'
          obtain ⟨u, hu, hue⟩ := Option.bind_eq_some_iff.1 hxe
          have := eval_rep hT hu
          cases u <;> simp [asDat] at hue
          subst hue
          cases this with
          | dat _ _ h => exact h
        rw [pureSem_run P _ _ hrun w]
        exact hK v w F L (.refl _ _ _) hS (.dat _ _ hR)
    split at h
    · rename_i r' hr
      obtain rfl := Option.some.inj h
      obtain ⟨v, w', F', L', hrun, hE, hS', hR⟩ := opStep_ok hr hS hT hid hb
      rcases hrun with hrun | ⟨hrun, rfl⟩
      · rw [hrun]; exact hK v w' F' L' hE hS' hR
      · rw [hrun]; exact hK _ w' F' L' hE hS' hR
    · split at h
      · rename_i c hop
        split at h
        · rename_i f hcal
          split at h
          · rename_i n caps us htgt hus
            obtain ⟨u, hu, htu⟩ := Option.bind_eq_some_iff.1 htgt
            obtain ⟨vs, hv, hcaps⟩ := target_ok htu (eval_rep hT hu)
            obtain ⟨fn, b, hfn, hbd⟩ := docall_body hN.call hN.spec h
            rw [run_call_value hN.named hop hcal hv hfn hbd w]
            have hargs := (args_eval hT hus).append hcaps
            have hcall := docall_ok hN.spec (fun j hj => hk j (Nat.lt_succ_of_lt hj)) h hS hargs hid hfr hb
            have e : (c.args.map a.eval ++ vs.toArray) = (c.args.toList.map a.eval ++ vs).toArray := by
              apply Array.ext'
              simp
            rw [Oper.upon_enter, e]
            refine Calls.mono hcall fun e w' he => ?_
            obtain ⟨v, F', L', rfl, hE, hS', hr⟩ := he
            exact hK v w' F' L' hE hS' hr
          · simp at h
        · simp at h
      · simp at h
theorem wanted_ok {ops : Array Oper} {tm : List U} {o : Oper} {b : Bool} {F : Mem} {L : Lay} {a : Act} (h : wantedU ops tm o = some b) (hT : TR F L tm a.tmps) : Region.wanted o (yielded ops a.tmps) = b := by
  unfold wantedU at h
  unfold Region.wanted
  cases hg : o.guard with
  | none => rw [hg] at h; simpa using h
  | some p =>
    obtain ⟨j, want⟩ := p
    rw [hg] at h
    simp only at h ⊢
    unfold yielded
    cases hd : (ops[j]?).bind (·.dst) with
    | none => rw [hd] at h; simp at h
    | some t =>
      rw [hd] at h
      simp only [Option.bind_some] at h ⊢
      split at h
      · rename_i c hc
        obtain ⟨v, hv, hr⟩ := hT.2 t _ hc
        cases hr with
        | dat _ _ hr => cases hr; simp only [hv]; simpa using h
      · rename_i hc
        obtain ⟨v, hv, hr⟩ := hT.2 t _ hc
        cases hr
        simp only [hv]
        simpa [Go.undef] using h
      · simp at h
theorem put_defers (a : Act) (dst : Option Tmp) (v : Value) : (a.put dst v).defers = a.defers := by have _s : Sig := inferInstance; cases dst <;> rfl
theorem opers_seq (hN : Good P an) {Q : Exit → Act → World → Prop} {ops : Array Oper} {base b0 : Nat} : ∀ (k : Nat) (l : List Oper) (i : Nat) (s s' : St) (rs rs' : List (Option CallRes)) (w : World) (F : Mem) (L : Lay) (a : Act),
    (∀ j, j < k → PcOk P an j) → opers P an k ops base l i s rs = some (s', rs') → SR w F L b0 (getO s.st) → TR F L s.tm a.tmps →
    (∀ x, s.nx ≤ x → getO s.st x = none) → (∀ x, base + 8 * i ≤ x → x < base + 8 * (i + l.length) → getO s.st x = none) → base + 8 * (i + l.length) ≤ s.nx → b0 ≤ w.heap.size →
    (∀ a' w' F' L', Evo w F L w' F' L' → SR w' F' L' b0 (getO s'.st) → TR F' L' s'.tm a'.tmps → a'.defers = a.defers → Q .normal a' w') → wpList P ops Q l a w := by
  intro k
  induction k with
  | zero => intro l i s s' rs rs' w F L a hk h; simp [opers] at h
  | succ k ih =>
    intro l i s s' rs rs' w F L a hk h hS hT hnx hids hle hb hQ
    cases l with
    | nil =>
      simp only [opers, Option.some.injEq, Prod.mk.injEq] at h
      obtain ⟨rfl, rfl⟩ := h
      exact hQ a w F L (.refl _ _ _) hS hT rfl
    | cons o rest =>
      simp only [opers, forceN_eq, forceCR_eq, forceT_eq, forceL_eq, putK_eq, storeK_eq] at h
      simp only [List.length_cons] at hids hle
      unfold wpList
      split at h
      · rename_i hw
        rw [wanted_ok hw hT]
        simp only [if_true]
        split at h
        · rename_i r hr
          left
          have hu := (gr_all P an k).2.2.1 _ _ _ _ _ _ hr
          have hul := hu.le
          refine oper_ok hN (fun j hj => hk j (Nat.lt_succ_of_lt hj)) hr hS hT (hids _ (by omega) (by omega)) (fun _ => hnx) hb fun v w' F' L' hE hS' hR => ?_
          have hg : getO (setAll s.st r.res.up) = updF (getO s.st) r.res.up := getO_setAll _ _
          have hnone : ∀ x, getO s.st x = none → x ≠ base + 8 * i → (x < s.nx ∨ r.nx ≤ x) → getO (setAll s.st r.res.up) x = none := by
            intro x hx hne hlt
            rw [hg]
            cases e : updF (getO s.st) r.res.up x with
            | none => rfl
            | some ob =>
              rcases updF_from _ _ x (by rw [e]; simp) with h1 | h1
              · rcases hu.up x h1 with h2 | ⟨_, h2, h3⟩ | h2
                · exact absurd h2 hne
                · omega
                · exact absurd hx h2
              · exact absurd hx h1
          refine ih rest (i + 1) _ s' _ rs' w' F' L' (a.put o.dst v) (fun j hj => hk j (Nat.lt_succ_of_lt hj)) h ?_ ?_ ?_ ?_ ?_ ?_ ?_
          · simp only; rw [hg]; exact hS'
          · exact (hT.mono hE.memLe hE.layLe).put o.dst hR
          · intro x hx; simp only at hx ⊢; exact hnone x (hnx x (by omega)) (by omega) (.inr hx)
          · intro x h1 h2; simp only; exact hnone x (hids x (by omega) (by omega)) (by omega) (.inl (by omega))
          · simp only; omega
          · exact Nat.le_trans hb hE.size
          · intro a' w2 F2 L2 hE2 hS2 hT2 hd
            exact hQ a' w2 F2 L2 (hE.trans hE2) hS2 hT2 (by rw [hd, put_defers])
        · simp at h
      · rename_i hw
        rw [wanted_ok hw hT]
        simp only [Bool.false_eq_true, if_false]
        refine ih rest (i + 1) _ s' _ rs' w F L (a.put o.dst Go.undef) (fun j hj => hk j (Nat.lt_succ_of_lt hj)) h hS (hT.put o.dst .undef) hnx ?_ ?_ hb ?_
        · intro x h1 h2; exact hids x (by omega) (by omega)
        · show base + 8 * (i + 1 + rest.length) ≤ s.nx
          omega
        · intro a' w2 F2 L2 hE2 hS2 hT2 hd
          exact hQ a' w2 F2 L2 hE2 hS2 hT2 (by rw [hd, put_defers])
      · simp at h
end
end Go.Proofs.YtjofhegodknmaaaGreat.V
namespace Go.Proofs.YtjofhegodknmaaaGreat.V
open Go
structure It where
  dst : Option Tmp
  u : U
  up : List (Nat × Obj)
def It.of (o : Oper) : Option CallRes → It
  | some r => ⟨o.dst, r.res.u, r.res.up⟩
  | none => ⟨o.dst, .undef, []⟩
def its : List Oper → List (Option CallRes) → List It
  | o :: l, r :: rs => .of o r :: its l rs
  | _, _ => []
theorem its_get : ∀ (l : List Oper) (rs : List (Option CallRes)) (j : Nat) (o : Oper) (r : Option CallRes), l[j]? = some o → rs[j]? = some r → (its l rs)[j]? = some (.of o r) := by
  intro l
  induction l with
  | nil => intro rs j o r h; simp at h
  | cons a l ih =>
    intro rs j o r h h'
    cases rs with
    | nil => simp at h'
    | cons b rs =>
      cases j with
      | zero => simp at h h'; subst h; subst h'; rfl
      | succ j => simp at h h'; simp only [its, List.getElem?_cons_succ]; exact ih rs j o r h h'
theorem its_back : ∀ (l : List Oper) (rs : List (Option CallRes)) (j : Nat) (t : It), (its l rs)[j]? = some t → ∃ o r, l[j]? = some o ∧ rs[j]? = some r ∧ t = .of o r := by
  intro l
  induction l with
  | nil => intro rs j t h; simp [its] at h
  | cons a l ih =>
    intro rs j t h
    cases rs with
    | nil => simp [its] at h
    | cons b rs =>
      cases j with
      | zero => simp [its] at h; exact ⟨a, b, rfl, rfl, h.symm⟩
      | succ j => simp only [its, List.getElem?_cons_succ] at h; obtain ⟨o, r, h1, h2, h3⟩ := ih rs j t h; exact ⟨o, r, h1, h2, h3⟩
def gE (g : Nat → Option Obj) : List It → (Nat → Bool) → Nat → (Nat → Option Obj)
  | [], _, _ => g
  | t :: l, D, i => gE (if D i then updF g t.up else g) l D (i + 1)
def tmE (tm : List U) : List It → (Nat → Bool) → Nat → List U
  | [], _, _ => tm
  | t :: l, D, i => tmE (if D i then put tm t.dst t.u else tm) l D (i + 1)
theorem gE_same : ∀ (l : List It) (g g' : Nat → Option Obj) (D D' : Nat → Bool) (i x : Nat), g x = g' x → (∀ (j : Nat) t, l[j]? = some t → D (i + j) ≠ D' (i + j) → x ∉ t.up.map (·.1)) → gE g l D i x = gE g' l D' i x := by
  intro l
  induction l with
  | nil => intro g g' D D' i x h _; exact h
  | cons t l ih =>
    intro g g' D D' i x h hd
    simp only [gE]
    refine ih _ _ D D' (i + 1) x ?_ (fun j t' ht hne => hd (j + 1) t' (by simpa using ht) (by rw [show i + (j + 1) = i + 1 + j by omega]; exact hne))
    by_cases e : D i = D' i
    · rw [← e]
      split
      · exact updF_at _ _ _ _ h
      · exact h
    · have hx := hd 0 t rfl e
      have e1 : (if D i = true then updF g t.up else g) x = g x := by split <;> first | exact updF_out _ _ _ hx | rfl
      have e2 : (if D' i = true then updF g' t.up else g') x = g' x := by split <;> first | exact updF_out _ _ _ hx | rfl
      rw [e1, e2, h]
theorem put_len (tm : List U) (d : Option Tmp) (u : U) : (put tm d u).length = tm.length := by cases d <;> simp [put]
theorem put_ne {tm : List U} {d : Option Tmp} {u : U} {t : Nat} (h : d ≠ some t) : (put tm d u)[t]? = tm[t]? := by
  cases d with
  | none => rfl
  | some d => simp only [put]; rw [List.getElem?_set_ne (fun e => h (by rw [e]))]
theorem put_at {tm tm' : List U} {d : Option Tmp} {u : U} {t : Nat} (hl : tm.length = tm'.length) (h : tm[t]? = tm'[t]?) : (put tm d u)[t]? = (put tm' d u)[t]? := by
  cases d with
  | none => exact h
  | some d =>
    simp only [put]
    by_cases e : d = t
    · subst e; simp [List.getElem?_set, hl]
    · rw [List.getElem?_set_ne e, List.getElem?_set_ne e]; exact h
theorem tmE_same : ∀ (l : List It) (tm tm' : List U) (D D' : Nat → Bool) (i t : Nat), tm.length = tm'.length → tm[t]? = tm'[t]? → (∀ (j : Nat) x, l[j]? = some x → D (i + j) ≠ D' (i + j) → x.dst ≠ some t) → (tmE tm l D i)[t]? = (tmE tm' l D' i)[t]? := by
  intro l
  induction l with
  | nil => intro tm tm' D D' i t hl h _; exact h
  | cons x l ih =>
    intro tm tm' D D' i t hl h hd
    simp only [tmE]
    refine ih _ _ D D' (i + 1) t ?_ ?_ (fun j t' ht hne => hd (j + 1) t' (by simpa using ht) (by rw [show i + (j + 1) = i + 1 + j by omega]; exact hne))
    · split <;> split <;> simp [put_len, hl]
    by_cases e : D i = D' i
    · rw [← e]
      split
      · exact put_at hl h
      · exact h
    · have hx := hd 0 x rfl e
      have e1 : (if D i = true then put tm x.dst x.u else tm)[t]? = tm[t]? := by split <;> first | exact put_ne hx | rfl
      have e2 : (if D' i = true then put tm' x.dst x.u else tm')[t]? = tm'[t]? := by split <;> first | exact put_ne hx | rfl
      rw [e1, e2, h]
theorem updF_comm (g : Nat → Option Obj) (a b : List (Nat × Obj)) (h : ∀ x ∈ a.map (·.1), x ∉ b.map (·.1)) : updF (updF g a) b = updF (updF g b) a := by
  funext x
  by_cases ha : x ∈ a.map (·.1)
  · rw [updF_out b _ x (h x ha)]
    exact updF_in a _ _ x ha
  · rw [updF_out a _ x ha]
    exact updF_at b _ _ x (updF_out a _ x ha)
theorem put_comm (tm : List U) {d d' : Option Tmp} (u u' : U) (h : ∀ t, d = some t → d' ≠ some t) : put (put tm d u) d' u' = put (put tm d' u') d u := by
  cases d with
  | none => rfl
  | some d =>
    cases d' with
    | none => rfl
    | some d' =>
      simp only [put]
      exact List.set_comm _ _ (fun e => h d rfl (by rw [e]))
theorem gE_push : ∀ (l : List It) (g : Nat → Option Obj) (D : Nat → Bool) (i : Nat) (up : List (Nat × Obj)), (∀ (j : Nat) t, l[j]? = some t → D (i + j) = true → ∀ x ∈ up.map (·.1), x ∉ t.up.map (·.1)) →
    gE (updF g up) l D i = updF (gE g l D i) up := by
  intro l
  induction l with
  | nil => intro g D i up _; rfl
  | cons t l ih =>
    intro g D i up h
    simp only [gE]
    have h' := fun (j : Nat) (t' : It) (ht : l[j]? = some t') (hd : D (i + 1 + j) = true) => h (j + 1) t' (by simpa using ht) (by rw [show i + (j + 1) = i + 1 + j by omega]; exact hd)
    split
    · rename_i hd
      rw [updF_comm g up t.up (h 0 t rfl hd)]
      exact ih _ D (i + 1) up h'
    · exact ih _ D (i + 1) up h'
theorem tmE_push : ∀ (l : List It) (tm : List U) (D : Nat → Bool) (i : Nat) (d : Option Tmp) (u : U), (∀ (j : Nat) t, l[j]? = some t → D (i + j) = true → ∀ x, d = some x → t.dst ≠ some x) →
    tmE (put tm d u) l D i = put (tmE tm l D i) d u := by
  intro l
  induction l with
  | nil => intro tm D i d u _; rfl
  | cons t l ih =>
    intro tm D i d u h
    simp only [tmE]
    have h' := fun (j : Nat) (t' : It) (ht : l[j]? = some t') (hd : D (i + 1 + j) = true) => h (j + 1) t' (by simpa using ht) (by rw [show i + (j + 1) = i + 1 + j by omega]; exact hd)
    split
    · rename_i hd
      rw [put_comm tm u t.u (h 0 t rfl hd)]
      exact ih _ D (i + 1) d u h'
    · exact ih _ D (i + 1) d u h'
def withD (D : Nat → Bool) (n : Nat) : Nat → Bool := fun x => D x || x == n
theorem gE_congr : ∀ (l : List It) (g : Nat → Option Obj) (D D' : Nat → Bool) (i : Nat), (∀ j, j < l.length → D (i + j) = D' (i + j)) → gE g l D i = gE g l D' i := by
  intro l g D D' i h
  funext x
  exact gE_same l g g D D' i x rfl fun j t ht hne => absurd (h j (List.getElem?_eq_some_iff.1 ht).1) hne
theorem tmE_congr : ∀ (l : List It) (tm : List U) (D D' : Nat → Bool) (i : Nat), (∀ j, j < l.length → D (i + j) = D' (i + j)) → tmE tm l D i = tmE tm l D' i := by
  intro l
  induction l with
  | nil => intro tm D D' i _; rfl
  | cons t l ih =>
    intro tm D D' i h
    simp only [tmE]
    have := h 0 (by simp)
    simp only [Nat.add_zero] at this
    rw [this]
    exact ih _ D D' (i + 1) fun j hj => by rw [show i + 1 + j = i + (j + 1) by omega]; exact h (j + 1) (by simp; omega)
theorem gE_add : ∀ (l : List It) (g : Nat → Option Obj) (D : Nat → Bool) (i n : Nat) (t : It), l[n]? = some t → D (i + n) = false →
    (∀ (j : Nat) t', l[j]? = some t' → n < j → D (i + j) = true → ∀ x ∈ t.up.map (·.1), x ∉ t'.up.map (·.1)) → gE g l (withD D (i + n)) i = updF (gE g l D i) t.up := by
  intro l
  induction l with
  | nil => intro g D i n t h; simp at h
  | cons a l ih =>
    intro g D i n t h hD hj
    cases n with
    | zero =>
      simp at h
      subst h
      have hD' : D i = false := hD
      simp only [gE, withD, Nat.add_zero, beq_self_eq_true, Bool.or_true, if_true, hD', Bool.false_eq_true, if_false]
      rw [gE_congr l _ (withD D i) D (i + 1) (fun j _ => (show (D (i + 1 + j) || i + 1 + j == i) = D (i + 1 + j) from by rw [show (i + 1 + j == i) = false from beq_false_of_ne (by omega)]; simp))]
      exact gE_push l g D (i + 1) a.up fun j t' ht hd => hj (j + 1) t' (by simpa using ht) (by omega) (by rw [show i + (j + 1) = i + 1 + j by omega]; exact hd)
    | succ n =>
      simp only [List.getElem?_cons_succ] at h
      have e : withD D (i + (n + 1)) i = D i := by
        have : (i == i + (n + 1)) = false := by simp
        simp [withD, this]
      simp only [gE, e]
      rw [show i + (n + 1) = i + 1 + n by omega] at hD ⊢
      exact ih _ D (i + 1) n t h hD fun j t' ht hnj hd => hj (j + 1) t' (by simpa using ht) (by omega) (by rw [show i + (j + 1) = i + 1 + j by omega]; exact hd)
theorem tmE_add : ∀ (l : List It) (tm : List U) (D : Nat → Bool) (i n : Nat) (t : It), l[n]? = some t → D (i + n) = false →
    (∀ (j : Nat) t', l[j]? = some t' → n < j → D (i + j) = true → ∀ x, t.dst = some x → t'.dst ≠ some x) → tmE tm l (withD D (i + n)) i = put (tmE tm l D i) t.dst t.u := by
  intro l
  induction l with
  | nil => intro tm D i n t h; simp at h
  | cons a l ih =>
    intro tm D i n t h hD hj
    cases n with
    | zero =>
      simp at h
      subst h
      have hD' : D i = false := hD
      simp only [tmE, withD, Nat.add_zero, beq_self_eq_true, Bool.or_true, if_true, hD', Bool.false_eq_true, if_false]
      rw [tmE_congr l _ (withD D i) D (i + 1) (fun j _ => (show (D (i + 1 + j) || i + 1 + j == i) = D (i + 1 + j) from by rw [show (i + 1 + j == i) = false from beq_false_of_ne (by omega)]; simp))]
      exact tmE_push l tm D (i + 1) a.dst a.u fun j t' ht hd => hj (j + 1) t' (by simpa using ht) (by omega) (by rw [show i + (j + 1) = i + 1 + j by omega]; exact hd)
    | succ n =>
      simp only [List.getElem?_cons_succ] at h
      have e : withD D (i + (n + 1)) i = D i := by
        have : (i == i + (n + 1)) = false := by simp
        simp [withD, this]
      simp only [tmE, e]
      rw [show i + (n + 1) = i + 1 + n by omega] at hD ⊢
      exact ih _ D (i + 1) n t h hD fun j t' ht hnj hd => hj (j + 1) t' (by simpa using ht) (by omega) (by rw [show i + (j + 1) = i + 1 + j by omega]; exact hd)
theorem gE_none (l : List It) (g : Nat → Option Obj) (D : Nat → Bool) (i : Nat) (h : ∀ j, i ≤ j → D j = false) : gE g l D i = g := by
  induction l generalizing i with
  | nil => rfl
  | cons t l ih => simp only [gE, h i (Nat.le_refl _), Bool.false_eq_true, if_false]; exact ih (i + 1) fun j hj => h j (by omega)
theorem tmE_none (l : List It) (tm : List U) (D : Nat → Bool) (i : Nat) (h : ∀ j, i ≤ j → D j = false) : tmE tm l D i = tm := by
  induction l generalizing i with
  | nil => rfl
  | cons t l ih => simp only [tmE, h i (Nat.le_refl _), Bool.false_eq_true, if_false]; exact ih (i + 1) fun j hj => h j (by omega)
theorem gE_from : ∀ (l : List It) (g : Nat → Option Obj) (D : Nat → Bool) (i x : Nat), gE g l D i x ≠ none → g x ≠ none ∨ ∃ (j : Nat) (t : It), l[j]? = some t ∧ D (i + j) = true ∧ x ∈ t.up.map (·.1) := by
  intro l
  induction l with
  | nil => intro g D i x h; exact .inl h
  | cons t l ih =>
    intro g D i x h
    simp only [gE] at h
    rcases ih _ D (i + 1) x h with h1 | ⟨j, t', h1, h2, h3⟩
    · split at h1
      · rename_i hd
        rcases updF_from _ _ _ h1 with h2 | h2
        · exact .inr ⟨0, t, rfl, hd, h2⟩
        · exact .inl h2
      · exact .inl h1
    · exact .inr ⟨j + 1, t', by simpa using h1, by rw [show i + (j + 1) = i + 1 + j by omega]; exact h2, h3⟩
section
variable {P : Program} {an : An}
def At (P : Program) (an : An) (k : Nat) (ops : Array Oper) (base : Nat) (o : Oper) (j : Nat) (tm : List U) (g : Nat → Option Obj) (nx nx' : Nat) : Option CallRes → Prop
  | some r => wantedU ops tm o = some true ∧ (∃ k', k' < k ∧ oper P an k' (base + 8 * j) o tm g nx = some r) ∧ nx' = r.nx
  | none => wantedU ops tm o = some false ∧ nx' = nx
theorem opers_trace {ops : Array Oper} {base : Nat} : ∀ (k : Nat) (l : List Oper) (i : Nat) (s s' : St) (rs rs' : List (Option CallRes)), opers P an k ops base l i s rs = some (s', rs') →
    ∃ rs2, rs' = rs ++ rs2 ∧ rs2.length = l.length ∧ getO s'.st = gE (getO s.st) (its l rs2) (fun _ => true) i ∧ s'.tm = tmE s.tm (its l rs2) (fun _ => true) i ∧
      ∃ nxs : Nat → Nat, nxs 0 = s.nx ∧ ∀ (j : Nat) o, l[j]? = some o → ∃ r, rs2[j]? = some r ∧
        At P an k ops base o (i + j) (tmE s.tm (its l rs2) (fun x => decide (x < i + j)) i) (gE (getO s.st) (its l rs2) (fun x => decide (x < i + j)) i) (nxs j) (nxs (j + 1)) r := by
  intro k
  induction k with
  | zero => intro l i s s' rs rs' h; simp [opers] at h
  | succ k ih =>
    intro l i s s' rs rs' h
    cases l with
    | nil =>
      simp only [opers, Option.some.injEq, Prod.mk.injEq] at h
      obtain ⟨rfl, rfl⟩ := h
      exact ⟨[], by simp, rfl, rfl, rfl, fun _ => s.nx, rfl, fun j o h => by simp at h⟩
    | cons o rest =>
      simp only [opers, forceN_eq, forceCR_eq, forceT_eq, forceL_eq, putK_eq, storeK_eq] at h
      have key : ∀ (r0 : Option CallRes) (s1 : St), opers P an k ops base rest (i + 1) s1 (rs ++ [r0]) = some (s', rs') → s1.tm = put s.tm o.dst (It.of o r0).u → getO s1.st = updF (getO s.st) (It.of o r0).up →
          At P an (k + 1) ops base o i s.tm (getO s.st) s.nx s1.nx r0 →
          ∃ rs2, rs' = rs ++ rs2 ∧ rs2.length = (o :: rest).length ∧ getO s'.st = gE (getO s.st) (its (o :: rest) rs2) (fun _ => true) i ∧ s'.tm = tmE s.tm (its (o :: rest) rs2) (fun _ => true) i ∧
            ∃ nxs : Nat → Nat, nxs 0 = s.nx ∧ ∀ (j : Nat) o', (o :: rest)[j]? = some o' → ∃ r, rs2[j]? = some r ∧
              At P an (k + 1) ops base o' (i + j) (tmE s.tm (its (o :: rest) rs2) (fun x => decide (x < i + j)) i) (gE (getO s.st) (its (o :: rest) rs2) (fun x => decide (x < i + j)) i) (nxs j) (nxs (j + 1)) r := by
        intro r0 s1 h1 htm hst hAt
        obtain ⟨rs2, e1, e2, e3, e4, nxs, e5, e6⟩ := ih rest (i + 1) s1 s' _ rs' h1
        have hdst : (It.of o r0).dst = o.dst := by cases r0 <;> rfl
        refine ⟨r0 :: rs2, by rw [e1]; simp, by simp [e2], ?_, ?_, fun j => match j with | 0 => s.nx | j + 1 => nxs j, rfl, fun j o' ho => ?_⟩
        · rw [e3, hst]; simp [its, gE]
        · rw [e4, htm]; simp [its, tmE, hdst]
        · cases j with
          | zero =>
            simp at ho
            subst ho
            refine ⟨r0, rfl, ?_⟩
            rw [gE_none _ _ _ _ (fun j hj => by simp; omega), tmE_none _ _ _ _ (fun j hj => by simp; omega)]
            show At P an (k + 1) ops base o i s.tm (getO s.st) s.nx (nxs 0) r0
            rw [e5]
            exact hAt
          | succ j =>
            simp only [List.getElem?_cons_succ] at ho
            obtain ⟨r, hr, hA⟩ := e6 j o' ho
            refine ⟨r, by simpa using hr, ?_⟩
            simp only [its, gE, tmE]
            have hlt : decide (i < i + (j + 1)) = true := by simp
            simp only [hlt, if_true]
            rw [show i + (j + 1) = i + 1 + j by omega]
            rw [hdst, ← htm, ← hst]
            cases r with
            | none => exact hA
            | some r => obtain ⟨a1, ⟨k', a2, a3⟩, a4⟩ := hA; exact ⟨a1, ⟨k', by omega, a3⟩, a4⟩
      split at h
      · rename_i hw
        split at h
        · rename_i r hr
          exact key (some r) _ h rfl (getO_setAll _ _) ⟨hw, ⟨k, Nat.lt_succ_self k, hr⟩, rfl⟩
        · simp at h
      · rename_i hw
        exact key none _ h rfl rfl ⟨hw, rfl⟩
      · simp at h
theorem bits_spec {acc : List Nat} {i : Nat} : ∀ {l : List Edge}, (bitsOf acc l).testBit i = true → ∃ e ∈ l, Region.binds .any e = true ∧ e.on < acc.length ∧ (i = e.on ∨ (acc.getD e.on 0).testBit i = true) := by
  intro l
  induction l with
  | nil => intro h; simp [bitsOf] at h
  | cons e l ih =>
    intro h
    simp only [bitsOf] at h
    split at h
    · rename_i hc
      simp only [Bool.and_eq_true, decide_eq_true_eq] at hc
      simp only [Nat.testBit_or, Bool.or_eq_true, Nat.testBit_two_pow, decide_eq_true_eq] at h
      rcases h with (h | h) | h
      · exact ⟨e, by simp, hc.1, hc.2, .inl h.symm⟩
      · exact ⟨e, by simp, hc.1, hc.2, .inr h⟩
      · obtain ⟨e', h1, h2⟩ := ih h
        exact ⟨e', by simp [h1], h2⟩
    · obtain ⟨e', h1, h2⟩ := ih h
      exact ⟨e', by simp [h1], h2⟩
theorem befsFrom_get : ∀ (l : List Oper) (acc : List Nat), (befsFrom acc l).length = acc.length + l.length ∧ (∀ j, j < acc.length → (befsFrom acc l).getD j 0 = acc.getD j 0) ∧
    ∀ (j : Nat) (o : Oper), l[j]? = some o → ∃ acc' : List Nat, acc'.length = acc.length + j ∧ (∀ i, i < acc'.length → acc'.getD i 0 = (befsFrom acc l).getD i 0) ∧ (befsFrom acc l).getD (acc.length + j) 0 = bitsOf acc' o.after.toList := by
  intro l
  induction l with
  | nil => intro acc; exact ⟨rfl, fun _ _ => rfl, fun j o h => by simp at h⟩
  | cons a l ih =>
    intro acc
    simp only [befsFrom, forceN_eq, forceL_eq]
    obtain ⟨h1, h2, h3⟩ := ih (acc ++ [bitsOf acc a.after.toList])
    refine ⟨by rw [h1]; simp; omega, fun j hj => ?_, fun j o ho => ?_⟩
    · rw [h2 j (by simp; omega)]
      simp [List.getD, List.getElem?_append_left hj]
    · cases j with
      | zero =>
        simp at ho
        subst ho
        refine ⟨acc, rfl, fun i hi => ?_, ?_⟩
        · rw [h2 i (by simp; omega)]
          simp [List.getD, List.getElem?_append_left hi]
        · rw [Nat.add_zero, h2 _ (by simp)]
          simp [List.getD]
      | succ j =>
        simp only [List.getElem?_cons_succ] at ho
        obtain ⟨acc', k1, k2, k3⟩ := h3 j o ho
        refine ⟨acc', by rw [k1]; simp; omega, k2, ?_⟩
        rw [← k3]
        congr 1
        simp; omega
theorem ahead_spec {ops : Array Oper} {i j : Nat} {o : Oper} (ho : ops[j]? = some o) (h : ahead ops i j = true) : ∃ e ∈ o.after, Region.binds .any e = true ∧ e.on < j ∧ (i = e.on ∨ ahead ops i e.on = true) := by
  obtain ⟨_, _, h3⟩ := befsFrom_get ops.toList []
  obtain ⟨acc', k1, k2, k3⟩ := h3 j o (by simpa using ho)
  unfold ahead befs at h
  simp only [List.length_nil, Nat.zero_add] at k1 k3
  rw [k3] at h
  obtain ⟨e, he, hb, hlt, h⟩ := bits_spec h
  refine ⟨e, by simpa using he, hb, by omega, ?_⟩
  rcases h with h | h
  · exact .inl h
  · rw [k2 _ hlt] at h
    exact .inr h
end
end Go.Proofs.YtjofhegodknmaaaGreat.V
namespace Go.Proofs.YtjofhegodknmaaaGreat.V
open Go
def opnds (o : Oper) : List Nat := o.op.operands.toList.filterMap fun | .tmp t => some t | _ => none
structure SlotsP (ops : Array Oper) : Prop where
  edges : ∀ (j : Nat) y, ops[j]? = some y → ∀ e ∈ y.after, Region.binds .any e = true → e.on < j
  guard : ∀ (j : Nat) y g b, ops[j]? = some y → y.guard = some (g, b) → ahead ops g j = true
  slots : ∀ (i j : Nat) x y, i < j → ops[i]? = some x → ops[j]? = some y → ahead ops i j = true ∨
    (∀ t, x.dst = some t → t ∉ opnds y ∧ y.dst ≠ some t) ∧ (∀ t, y.dst = some t → t ∉ opnds x)
theorem foldl_bits {acc : Array Nat} {i : Nat} : ∀ (l : List Edge) (s : Nat), (l.foldl (fun s e => if Region.binds .any e then s ||| 2 ^ e.on ||| acc.getD e.on 0 else s) s).testBit i = true →
    s.testBit i = true ∨ ∃ e ∈ l, Region.binds .any e = true ∧ (i = e.on ∨ (acc.getD e.on 0).testBit i = true) := by
  intro l
  induction l with
  | nil => intro s h; exact .inl h
  | cons e l ih =>
    intro s h
    rw [List.foldl_cons] at h
    rcases ih _ h with h1 | ⟨e', h1, h2⟩
    · split at h1
      · rename_i hb
        simp only [Nat.testBit_or, Bool.or_eq_true, Nat.testBit_two_pow, decide_eq_true_eq] at h1
        rcases h1 with (h1 | h1) | h1
        · exact .inl h1
        · exact .inr ⟨e, by simp, hb, .inl h1.symm⟩
        · exact .inr ⟨e, by simp, hb, .inr h1⟩
      · exact .inl h1
    · exact .inr ⟨e', by simp [h1], h2⟩
theorem bits_of {acc : List Nat} {i : Nat} : ∀ {l : List Edge} {e : Edge}, e ∈ l → Region.binds .any e = true → e.on < acc.length → (i = e.on ∨ (acc.getD e.on 0).testBit i = true) → (bitsOf acc l).testBit i = true := by
  intro l
  induction l with
  | nil => intro e h; simp at h
  | cons a l ih =>
    intro e he hb hlt hi
    simp only [bitsOf]
    rcases List.mem_cons.1 he with rfl | he
    · have : (Region.binds .any e && decide (e.on < acc.length)) = true := by simp [hb, hlt]
      rw [if_pos this]
      simp only [Nat.testBit_or, Bool.or_eq_true, Nat.testBit_two_pow, decide_eq_true_eq]
      rcases hi with rfl | hi
      · exact .inl (.inl rfl)
      · exact .inl (.inr hi)
    · have := ih he hb hlt hi
      split
      · simp only [Nat.testBit_or, Bool.or_eq_true]; exact .inr this
      · exact this
theorem before_ahead : ∀ (l : List Oper) (acc : Array Nat) (acc' : List Nat), acc.size = acc'.length → (∀ (j i : Nat), (acc.getD j 0).testBit i = true → (acc'.getD j 0).testBit i = true) →
    (∀ (j : Nat) o, l[j]? = some o → ∀ e ∈ o.after, Region.binds .any e = true → e.on < acc.size + j) →
    ∀ (j i : Nat), ((l.foldl (fun acc o => acc.push (o.after.foldl (fun s e => if Region.binds .any e then s ||| 2 ^ e.on ||| acc.getD e.on 0 else s) 0)) acc).getD j 0).testBit i = true → ((befsFrom acc' l).getD j 0).testBit i = true := by
  intro l
  induction l with
  | nil => intro acc acc' _ h _ j i hb; exact h j i hb
  | cons o l ih =>
    intro acc acc' hsz h he j i hb
    rw [List.foldl_cons] at hb
    simp only [befsFrom, forceN_eq, forceL_eq]
    refine ih _ _ (by simp [hsz]) (fun j i hb => ?_) (fun j o' ho e hem hbi => ?_) j i hb
    · by_cases hj : j < acc.size
      · have h1 : (acc.push (o.after.foldl (fun s e => if Region.binds .any e then s ||| 2 ^ e.on ||| acc.getD e.on 0 else s) 0)).getD j 0 = acc.getD j 0 := by
          simp [Array.getElem?_push, hj, Nat.ne_of_lt hj]
        rw [h1] at hb
        have h2 : (acc' ++ [bitsOf acc' o.after.toList]).getD j 0 = acc'.getD j 0 := by simp [List.getD, List.getElem?_append_left (show j < acc'.length by omega)]
        rw [h2]
        exact h j i hb
      · by_cases hj2 : j = acc.size
        · subst hj2
          have h1 : (acc.push (o.after.foldl (fun s e => if Region.binds .any e then s ||| 2 ^ e.on ||| acc.getD e.on 0 else s) 0)).getD acc.size 0 = o.after.foldl (fun s e => if Region.binds .any e then s ||| 2 ^ e.on ||| acc.getD e.on 0 else s) 0 := by
            simp
          rw [h1, ← Array.foldl_toList] at hb
          have h2 : (acc' ++ [bitsOf acc' o.after.toList]).getD acc.size 0 = bitsOf acc' o.after.toList := by
            rw [hsz]; simp [List.getD]
          rw [h2]
          rcases foldl_bits _ _ hb with h3 | ⟨e, h3, h4, h5⟩
          · simp at h3
          · have hlt := he 0 o rfl e (by simpa using h3) h4
            refine bits_of h3 h4 (by omega) ?_
            rcases h5 with h5 | h5
            · exact .inl h5
            · exact .inr (h _ _ h5)
        · have h1 : (acc.push (o.after.foldl (fun s e => if Region.binds .any e then s ||| 2 ^ e.on ||| acc.getD e.on 0 else s) 0)).getD j 0 = 0 := by
            have : ¬ j < (acc.push (o.after.foldl (fun s e => if Region.binds .any e then s ||| 2 ^ e.on ||| acc.getD e.on 0 else s) 0)).size := by simp; omega
            unfold Array.getD
            rw [dif_neg this]
          rw [h1] at hb
          simp at hb
    · have := he (j + 1) o' (by simpa using ho) e hem hbi
      simp
      omega
theorem ahead_of_before {ops : Array Oper} (he : ∀ (j : Nat) o, ops[j]? = some o → ∀ e ∈ o.after, Region.binds .any e = true → e.on < j) {i j : Nat} (h : ((Region.before ops).getD j 0).testBit i = true) : ahead ops i j = true := by
  unfold ahead befs
  refine before_ahead ops.toList #[] [] rfl (fun j i h => by simp at h) (fun j o ho e hem hb => by simpa using he j o (by simpa using ho) e hem hb) j i ?_
  unfold Region.before at h
  rw [← Array.foldl_toList] at h
  exact h
theorem writers_mem (n : Nat) (hn : 0 < n) : ∀ (l : List (Oper × Nat)) (w : Array (List (Tmp × Nat))) (o : Oper) (i d : Nat), w.size = n → ((o, i) ∈ l ∧ o.dst = some d ∨ (d, i) ∈ w.getD (d % n) []) →
    (d, i) ∈ (l.foldl (fun w (x : Oper × Nat) => match x with | (o, i) => match o.dst with | some d => w.modify (d % n) ((d, i) :: ·) | none => w) w).getD (d % n) [] := by
  intro l
  induction l with
  | nil => intro w o i d hw h; rcases h with ⟨h, _⟩ | h; exact absurd h (by simp); exact h
  | cons a l ih =>
    intro w o i d hw h
    obtain ⟨o', i'⟩ := a
    rw [List.foldl_cons]
    simp only
    cases hd : o'.dst with
    | none =>
      simp only
      refine ih w o i d hw ?_
      rcases h with ⟨h, h2⟩ | h
      · rcases List.mem_cons.1 h with h | h
        · injection h with h3 h4; subst h3; rw [hd] at h2; simp at h2
        · exact .inl ⟨h, h2⟩
      · exact .inr h
    | some d' =>
      simp only
      refine ih _ o i d (by simp [hw]) ?_
      have hlt : d % n < w.size := by rw [hw]; exact Nat.mod_lt _ hn
      rcases h with ⟨h, h2⟩ | h
      · rcases List.mem_cons.1 h with h | h
        · injection h with h3 h4
          subst h3; subst h4
          rw [hd] at h2
          obtain rfl := Option.some.inj h2
          right
          simp [Array.getD, hlt, Array.getElem_modify]
        · exact .inl ⟨h, h2⟩
      · right
        simp only [Array.getD, hlt, Array.size_modify, dif_pos] at h ⊢
        simp only [Array.getInternal_eq_getElem, Array.getElem_modify] at h ⊢
        split
        · exact List.mem_cons_of_mem _ h
        · exact h
theorem slotsP_of_ok {types : Array TypeInfo} {ops : Array Oper} {draw : Bool} (h : Region.ok types ops draw = true) : SlotsP ops := by
  unfold Region.ok at h
  simp only [Bool.and_eq_true] at h
  obtain ⟨⟨⟨⟨h1, h2⟩, h3⟩, h4⟩, h5⟩ := h
  rw [Array.all_eq_true_iff_forall_mem] at h1
  have hz : ∀ (j : Nat) y, ops[j]? = some y → (y, j) ∈ ops.zipIdx := by
    intro j y hy
    rw [Array.mem_zipIdx_iff_getElem?]
    exact hy
  have hzl : ∀ (j : Nat) y, ops[j]? = some y → (y, j) ∈ ops.toList.zipIdx := by
    intro j y hy
    rw [List.mk_mem_zipIdx_iff_getElem?]
    simpa using hy
  have hedges : ∀ (j : Nat) y, ops[j]? = some y → ∀ e ∈ y.after, Region.binds .any e = true → e.on < j := by
    intro j y hy e he hb
    have h6 := h1 _ (hz j y hy)
    simp only [Bool.and_eq_true] at h6
    have h7 := Array.all_eq_true_iff_forall_mem.1 h6.1 e he
    simp only [Bool.or_eq_true, decide_eq_true_eq] at h7
    rcases h7 with h7 | h7
    · exact h7
    · unfold Region.binds at hb
      cases hg : e.ground <;> simp [hg] at h7 hb
  have hbef : ∀ {i j : Nat}, ((Region.before ops).getD j 0).testBit i = true → ahead ops i j = true := fun h => ahead_of_before hedges h
  refine ⟨hedges, fun j y g b hy hgd => ?_, fun i j x y hij hx hy => ?_⟩
  · have h6 := h1 _ (hz j y hy)
    simp only [Bool.and_eq_true] at h6
    have h7 := h6.2
    rw [hgd] at h7
    simp only [Bool.and_eq_true] at h7
    obtain ⟨e, he, hcond⟩ := Array.any_eq_true'.1 h7.1
    simp only [Bool.and_eq_true, beq_iff_eq] at hcond
    have hlt := hedges j y hy e he hcond.2
    rw [← hcond.1]
    unfold ahead befs
    obtain ⟨_, _, h8⟩ := befsFrom_get ops.toList []
    obtain ⟨acc', k1, k2, k3⟩ := h8 j y (by simpa using hy)
    simp only [List.length_nil, Nat.zero_add] at k1 k3
    rw [k3]
    exact bits_of (by simpa using he) hcond.2 (by omega) (.inl rfl)
  · have hi : i < ops.size := (Array.getElem?_eq_some_iff.1 hx).1
    have hn : 0 < ops.size := by omega
    unfold Region.temporariesOk at h2
    simp only [List.all_eq_true] at h2
    have key : ∀ (a b : Nat) (xa xb : Oper) (t : Nat), ops[a]? = some xa → ops[b]? = some xb → a ≠ b → xa.dst = some t → (xb.dst = some t ∨ t ∈ opnds xb) → ((Region.before ops).getD (max a b) 0).testBit (min a b) = true := by
      intro a b xa xb t ha hb hne hda hnb
      have h6 := h2 _ (hzl b xb hb) t (by
        simp only [List.mem_append]
        rcases hnb with hnb | hnb
        · left; rw [hnb]; simp
        · right; exact hnb)
      have hw := writers_mem ops.size hn ops.toList.zipIdx (Array.replicate ops.size []) xa a t (by simp) (.inl ⟨hzl a xa ha, hda⟩)
      have h7 := h6 _ hw
      simp only [bne_self_eq_false, Bool.false_or, Bool.or_eq_true, beq_iff_eq] at h7
      rcases h7 with h7 | h7
      · exact absurd h7 hne
      · exact h7
    by_cases hah : ahead ops i j = true
    · exact .inl hah
    · right
      have no : ∀ {t : Nat}, ((Region.before ops).getD (max i j) 0).testBit (min i j) = true → False := fun h => by
        rw [Nat.max_eq_right (by omega), Nat.min_eq_left (by omega)] at h
        exact hah (hbef h)
      have no' : ((Region.before ops).getD (max j i) 0).testBit (min j i) = true → False := fun h => by
        rw [Nat.max_eq_left (by omega), Nat.min_eq_right (by omega)] at h
        exact hah (hbef h)
      refine ⟨fun t ht => ⟨fun hm => no (t := t) (key i j x y t hx hy (by omega) ht (.inr hm)), fun hd => no (t := t) (key i j x y t hx hy (by omega) ht (.inl hd))⟩, fun t ht hm => no' (key j i y x t hy hx (by omega) ht (.inr hm))⟩
def Regs : Code → Prop
  | .region _ ops _ => SlotsP ops
  | .seq a b => Regs a ∧ Regs b
  | .cond _ a b => Regs a ∧ Regs b
  | .block _ b => Regs b
  | .loop b => Regs b
  | _ => True
def RegsP (P : Program) : Prop := ∀ (f : Nat) fn c, P.funcs[f]? = some fn → fn.body = some c → Regs c
theorem ex_bind {α β : Type} {x : Except String α} {f : α → Except String β} {b : β} (h : (x >>= f) = .ok b) : ∃ a, x = .ok a ∧ f a = .ok b := by
  cases x with
  | error e => simp [bind, Except.bind] at h
  | ok a => exact ⟨a, rfl, h⟩
theorem ex_bind_unit {β : Type} {x : Except String Unit} {y : Except String β} {b : β} (h : (do x; y) = .ok b) : x = .ok () ∧ y = .ok b := by
  obtain ⟨a, h1, h2⟩ := ex_bind h
  exact ⟨h1, h2⟩
theorem req_ok {b : Bool} {m : String} {u : Unit} (h : CheckCode.require b m = .ok u) : b = true := by
  unfold CheckCode.require at h
  split at h
  · assumption
  · simp [throw, throwThe, MonadExceptOf.throw] at h
theorem regs_of_code {p : Program} {f : Func} : ∀ (c : Code) (bl la : List Nat), CheckCode.code p f bl la c = .ok () → Regs c := by
  intro c
  induction c with
  | region id ops draw =>
    intro bl la h
    unfold CheckCode.code CheckCode.region at h
    obtain ⟨_, h⟩ := ex_bind_unit h
    obtain ⟨_, h⟩ := ex_bind_unit h
    exact slotsP_of_ok (req_ok h)
  | seq a b iha ihb =>
    intro bl la h
    unfold CheckCode.code at h
    obtain ⟨h1, h2⟩ := ex_bind_unit h
    exact ⟨iha _ _ h1, ihb _ _ h2⟩
  | cond c a b iha ihb =>
    intro bl la h
    unfold CheckCode.code at h
    obtain ⟨_, h⟩ := ex_bind_unit h
    obtain ⟨h1, h2⟩ := ex_bind_unit h
    exact ⟨iha _ _ h1, ihb _ _ h2⟩
  | block id b ih => intro bl la h; unfold CheckCode.code at h; exact ih _ _ h
  | loop b ih => intro bl la h; unfold CheckCode.code at h; exact ih _ _ h
  | _ => intro bl la h; trivial
theorem forM_ok {α : Type} {f : α → Except String Unit} : ∀ {l : List α}, l.forM f = .ok () → ∀ x ∈ l, f x = .ok () := by
  intro l
  induction l with
  | nil => intro _ x hx; simp at hx
  | cons a l ih =>
    intro h x hx
    have h : (do f a; l.forM f) = Except.ok () := h
    obtain ⟨h1, h2⟩ := ex_bind_unit h
    rcases List.mem_cons.1 hx with rfl | hx
    · exact h1
    · exact ih h2 x hx
theorem regs_of_check {P : Program} (h : P.check = .ok ()) : RegsP P := by
  intro f fn c hf hb
  unfold Program.check at h
  obtain ⟨h1, _⟩ := ex_bind_unit h
  have hlt : f < P.funcs.size := (Array.getElem?_eq_some_iff.1 hf).1
  have h2 := forM_ok h1 f (List.mem_range.2 hlt)
  unfold CheckCode.funcAt at h2
  rw [hf] at h2
  simp only at h2
  have h3 : CheckCode.func P fn = .ok () := by
    cases hx : CheckCode.func P fn with
    | error e => rw [hx] at h2; simp [Except.mapError] at h2
    | ok u => rfl
  unfold CheckCode.func at h3
  obtain ⟨_, h3⟩ := ex_bind_unit h3
  obtain ⟨_, h3⟩ := ex_bind_unit h3
  obtain ⟨_, _, h3⟩ := ex_bind h3
  rw [hb] at h3
  simp only at h3
  obtain ⟨_, h3⟩ := ex_bind_unit h3
  obtain ⟨h3, _⟩ := ex_bind_unit h3
  exact regs_of_code c _ _ h3
end Go.Proofs.YtjofhegodknmaaaGreat.V
