/- V, 15: regions in any order. -/
import Derived.Test.YtjofhegodknmaaaV14
set_option linter.unusedSimpArgs false
set_option linter.unusedVariables false
namespace Go.Proofs.Ytjofhegodknmaaa.V
open Go
structure It where
  dst : Option Tmp
  u : U
  up : List (Nat × Obj)
def It.of (o : Oper) : Option CallRes → It
  | some r => ⟨o.dst, r.res.u, r.res.up⟩
  | none => ⟨o.dst, .undef, []⟩
def its : List Oper → List (Option CallRes) → List It
  | o :: l, r :: rs => .of o r :: its l rs
  | _, _ => []
theorem its_get : ∀ (l : List Oper) (rs : List (Option CallRes)) (j : Nat) (o : Oper) (r : Option CallRes), l[j]? = some o → rs[j]? = some r → (its l rs)[j]? = some (.of o r) := by
  intro l
  induction l with
  | nil => intro rs j o r h; simp at h
  | cons a l ih =>
    intro rs j o r h h'
    cases rs with
    | nil => simp at h'
    | cons b rs =>
      cases j with
      | zero => simp at h h'; subst h; subst h'; rfl
      | succ j => simp at h h'; simp only [its, List.getElem?_cons_succ]; exact ih rs j o r h h'
theorem its_back : ∀ (l : List Oper) (rs : List (Option CallRes)) (j : Nat) (t : It), (its l rs)[j]? = some t → ∃ o r, l[j]? = some o ∧ rs[j]? = some r ∧ t = .of o r := by
  intro l
  induction l with
  | nil => intro rs j t h; simp [its] at h
  | cons a l ih =>
    intro rs j t h
    cases rs with
    | nil => simp [its] at h
    | cons b rs =>
      cases j with
      | zero => simp [its] at h; exact ⟨a, b, rfl, rfl, h.symm⟩
      | succ j => simp only [its, List.getElem?_cons_succ] at h; obtain ⟨o, r, h1, h2, h3⟩ := ih rs j t h; exact ⟨o, r, h1, h2, h3⟩
def gE (g : Nat → Option Obj) : List It → (Nat → Bool) → Nat → (Nat → Option Obj)
  | [], _, _ => g
  | t :: l, D, i => gE (if D i then updF g t.up else g) l D (i + 1)
def tmE (tm : List U) : List It → (Nat → Bool) → Nat → List U
  | [], _, _ => tm
  | t :: l, D, i => tmE (if D i then put tm t.dst t.u else tm) l D (i + 1)
theorem gE_same : ∀ (l : List It) (g g' : Nat → Option Obj) (D D' : Nat → Bool) (i x : Nat), g x = g' x → (∀ (j : Nat) t, l[j]? = some t → D (i + j) ≠ D' (i + j) → x ∉ t.up.map (·.1)) → gE g l D i x = gE g' l D' i x := by
  intro l
  induction l with
  | nil => intro g g' D D' i x h _; exact h
  | cons t l ih =>
    intro g g' D D' i x h hd
    simp only [gE]
    refine ih _ _ D D' (i + 1) x ?_ (fun j t' ht hne => hd (j + 1) t' (by simpa using ht) (by rw [show i + (j + 1) = i + 1 + j by omega]; exact hne))
    by_cases e : D i = D' i
    · rw [← e]
      split
      · exact updF_at _ _ _ _ h
      · exact h
    · have hx := hd 0 t rfl e
      have e1 : (if D i = true then updF g t.up else g) x = g x := by split <;> first | exact updF_out _ _ _ hx | rfl
      have e2 : (if D' i = true then updF g' t.up else g') x = g' x := by split <;> first | exact updF_out _ _ _ hx | rfl
      rw [e1, e2, h]
theorem put_len (tm : List U) (d : Option Tmp) (u : U) : (put tm d u).length = tm.length := by cases d <;> simp [put]
theorem put_ne {tm : List U} {d : Option Tmp} {u : U} {t : Nat} (h : d ≠ some t) : (put tm d u)[t]? = tm[t]? := by
  cases d with
  | none => rfl
  | some d => simp only [put]; rw [List.getElem?_set_ne (fun e => h (by rw [e]))]
theorem put_at {tm tm' : List U} {d : Option Tmp} {u : U} {t : Nat} (hl : tm.length = tm'.length) (h : tm[t]? = tm'[t]?) : (put tm d u)[t]? = (put tm' d u)[t]? := by
  cases d with
  | none => exact h
  | some d =>
    simp only [put]
    by_cases e : d = t
    · subst e; simp [List.getElem?_set, hl]
    · rw [List.getElem?_set_ne e, List.getElem?_set_ne e]; exact h
theorem tmE_same : ∀ (l : List It) (tm tm' : List U) (D D' : Nat → Bool) (i t : Nat), tm.length = tm'.length → tm[t]? = tm'[t]? → (∀ (j : Nat) x, l[j]? = some x → D (i + j) ≠ D' (i + j) → x.dst ≠ some t) → (tmE tm l D i)[t]? = (tmE tm' l D' i)[t]? := by
  intro l
  induction l with
  | nil => intro tm tm' D D' i t hl h _; exact h
  | cons x l ih =>
    intro tm tm' D D' i t hl h hd
    simp only [tmE]
    refine ih _ _ D D' (i + 1) t ?_ ?_ (fun j t' ht hne => hd (j + 1) t' (by simpa using ht) (by rw [show i + (j + 1) = i + 1 + j by omega]; exact hne))
    · split <;> split <;> simp [put_len, hl]
    by_cases e : D i = D' i
    · rw [← e]
      split
      · exact put_at hl h
      · exact h
    · have hx := hd 0 x rfl e
      have e1 : (if D i = true then put tm x.dst x.u else tm)[t]? = tm[t]? := by split <;> first | exact put_ne hx | rfl
      have e2 : (if D' i = true then put tm' x.dst x.u else tm')[t]? = tm'[t]? := by split <;> first | exact put_ne hx | rfl
      rw [e1, e2, h]
theorem updF_comm (g : Nat → Option Obj) (a b : List (Nat × Obj)) (h : ∀ x ∈ a.map (·.1), x ∉ b.map (·.1)) : updF (updF g a) b = updF (updF g b) a := by
  funext x
  by_cases ha : x ∈ a.map (·.1)
  · rw [updF_out b _ x (h x ha)]
    exact updF_in a _ _ x ha
  · rw [updF_out a _ x ha]
    exact updF_at b _ _ x (updF_out a _ x ha)
theorem put_comm (tm : List U) {d d' : Option Tmp} (u u' : U) (h : ∀ t, d = some t → d' ≠ some t) : put (put tm d u) d' u' = put (put tm d' u') d u := by
  cases d with
  | none => rfl
  | some d =>
    cases d' with
    | none => rfl
    | some d' =>
      simp only [put]
      exact List.set_comm _ _ (fun e => h d rfl (by rw [e]))
theorem gE_push : ∀ (l : List It) (g : Nat → Option Obj) (D : Nat → Bool) (i : Nat) (up : List (Nat × Obj)), (∀ (j : Nat) t, l[j]? = some t → D (i + j) = true → ∀ x ∈ up.map (·.1), x ∉ t.up.map (·.1)) →
    gE (updF g up) l D i = updF (gE g l D i) up := by
  intro l
  induction l with
  | nil => intro g D i up _; rfl
  | cons t l ih =>
    intro g D i up h
    simp only [gE]
    have h' := fun (j : Nat) (t' : It) (ht : l[j]? = some t') (hd : D (i + 1 + j) = true) => h (j + 1) t' (by simpa using ht) (by rw [show i + (j + 1) = i + 1 + j by omega]; exact hd)
    split
    · rename_i hd
      rw [updF_comm g up t.up (h 0 t rfl hd)]
      exact ih _ D (i + 1) up h'
    · exact ih _ D (i + 1) up h'
theorem tmE_push : ∀ (l : List It) (tm : List U) (D : Nat → Bool) (i : Nat) (d : Option Tmp) (u : U), (∀ (j : Nat) t, l[j]? = some t → D (i + j) = true → ∀ x, d = some x → t.dst ≠ some x) →
    tmE (put tm d u) l D i = put (tmE tm l D i) d u := by
  intro l
  induction l with
  | nil => intro tm D i d u _; rfl
  | cons t l ih =>
    intro tm D i d u h
    simp only [tmE]
    have h' := fun (j : Nat) (t' : It) (ht : l[j]? = some t') (hd : D (i + 1 + j) = true) => h (j + 1) t' (by simpa using ht) (by rw [show i + (j + 1) = i + 1 + j by omega]; exact hd)
    split
    · rename_i hd
      rw [put_comm tm u t.u (h 0 t rfl hd)]
      exact ih _ D (i + 1) d u h'
    · exact ih _ D (i + 1) d u h'
def withD (D : Nat → Bool) (n : Nat) : Nat → Bool := fun x => D x || x == n
theorem gE_congr : ∀ (l : List It) (g : Nat → Option Obj) (D D' : Nat → Bool) (i : Nat), (∀ j, j < l.length → D (i + j) = D' (i + j)) → gE g l D i = gE g l D' i := by
  intro l g D D' i h
  funext x
  exact gE_same l g g D D' i x rfl fun j t ht hne => absurd (h j (List.getElem?_eq_some_iff.1 ht).1) hne
theorem tmE_congr : ∀ (l : List It) (tm : List U) (D D' : Nat → Bool) (i : Nat), (∀ j, j < l.length → D (i + j) = D' (i + j)) → tmE tm l D i = tmE tm l D' i := by
  intro l
  induction l with
  | nil => intro tm D D' i _; rfl
  | cons t l ih =>
    intro tm D D' i h
    simp only [tmE]
    have := h 0 (by simp)
    simp only [Nat.add_zero] at this
    rw [this]
    exact ih _ D D' (i + 1) fun j hj => by rw [show i + 1 + j = i + (j + 1) by omega]; exact h (j + 1) (by simp; omega)
theorem gE_add : ∀ (l : List It) (g : Nat → Option Obj) (D : Nat → Bool) (i n : Nat) (t : It), l[n]? = some t → D (i + n) = false →
    (∀ (j : Nat) t', l[j]? = some t' → n < j → D (i + j) = true → ∀ x ∈ t.up.map (·.1), x ∉ t'.up.map (·.1)) → gE g l (withD D (i + n)) i = updF (gE g l D i) t.up := by
  intro l
  induction l with
  | nil => intro g D i n t h; simp at h
  | cons a l ih =>
    intro g D i n t h hD hj
    cases n with
    | zero =>
      simp at h
      subst h
      have hD' : D i = false := hD
      simp only [gE, withD, Nat.add_zero, beq_self_eq_true, Bool.or_true, if_true, hD', Bool.false_eq_true, if_false]
      rw [gE_congr l _ (withD D i) D (i + 1) (fun j _ => (show (D (i + 1 + j) || i + 1 + j == i) = D (i + 1 + j) from by rw [show (i + 1 + j == i) = false from beq_false_of_ne (by omega)]; simp))]
      exact gE_push l g D (i + 1) a.up fun j t' ht hd => hj (j + 1) t' (by simpa using ht) (by omega) (by rw [show i + (j + 1) = i + 1 + j by omega]; exact hd)
    | succ n =>
      simp only [List.getElem?_cons_succ] at h
      have e : withD D (i + (n + 1)) i = D i := by
        have : (i == i + (n + 1)) = false := by simp
        simp [withD, this]
      simp only [gE, e]
      rw [show i + (n + 1) = i + 1 + n by omega] at hD ⊢
      exact ih _ D (i + 1) n t h hD fun j t' ht hnj hd => hj (j + 1) t' (by simpa using ht) (by omega) (by rw [show i + (j + 1) = i + 1 + j by omega]; exact hd)
theorem tmE_add : ∀ (l : List It) (tm : List U) (D : Nat → Bool) (i n : Nat) (t : It), l[n]? = some t → D (i + n) = false →
    (∀ (j : Nat) t', l[j]? = some t' → n < j → D (i + j) = true → ∀ x, t.dst = some x → t'.dst ≠ some x) → tmE tm l (withD D (i + n)) i = put (tmE tm l D i) t.dst t.u := by
  intro l
  induction l with
  | nil => intro tm D i n t h; simp at h
  | cons a l ih =>
    intro tm D i n t h hD hj
    cases n with
    | zero =>
      simp at h
      subst h
      have hD' : D i = false := hD
      simp only [tmE, withD, Nat.add_zero, beq_self_eq_true, Bool.or_true, if_true, hD', Bool.false_eq_true, if_false]
      rw [tmE_congr l _ (withD D i) D (i + 1) (fun j _ => (show (D (i + 1 + j) || i + 1 + j == i) = D (i + 1 + j) from by rw [show (i + 1 + j == i) = false from beq_false_of_ne (by omega)]; simp))]
      exact tmE_push l tm D (i + 1) a.dst a.u fun j t' ht hd => hj (j + 1) t' (by simpa using ht) (by omega) (by rw [show i + (j + 1) = i + 1 + j by omega]; exact hd)
    | succ n =>
      simp only [List.getElem?_cons_succ] at h
      have e : withD D (i + (n + 1)) i = D i := by
        have : (i == i + (n + 1)) = false := by simp
        simp [withD, this]
      simp only [tmE, e]
      rw [show i + (n + 1) = i + 1 + n by omega] at hD ⊢
      exact ih _ D (i + 1) n t h hD fun j t' ht hnj hd => hj (j + 1) t' (by simpa using ht) (by omega) (by rw [show i + (j + 1) = i + 1 + j by omega]; exact hd)
theorem gE_none (l : List It) (g : Nat → Option Obj) (D : Nat → Bool) (i : Nat) (h : ∀ j, i ≤ j → D j = false) : gE g l D i = g := by
  induction l generalizing i with
  | nil => rfl
  | cons t l ih => simp only [gE, h i (Nat.le_refl _), Bool.false_eq_true, if_false]; exact ih (i + 1) fun j hj => h j (by omega)
theorem tmE_none (l : List It) (tm : List U) (D : Nat → Bool) (i : Nat) (h : ∀ j, i ≤ j → D j = false) : tmE tm l D i = tm := by
  induction l generalizing i with
  | nil => rfl
  | cons t l ih => simp only [tmE, h i (Nat.le_refl _), Bool.false_eq_true, if_false]; exact ih (i + 1) fun j hj => h j (by omega)
theorem gE_from : ∀ (l : List It) (g : Nat → Option Obj) (D : Nat → Bool) (i x : Nat), gE g l D i x ≠ none → g x ≠ none ∨ ∃ (j : Nat) (t : It), l[j]? = some t ∧ D (i + j) = true ∧ x ∈ t.up.map (·.1) := by
  intro l
  induction l with
  | nil => intro g D i x h; exact .inl h
  | cons t l ih =>
    intro g D i x h
    simp only [gE] at h
    rcases ih _ D (i + 1) x h with h1 | ⟨j, t', h1, h2, h3⟩
    · split at h1
      · rename_i hd
        rcases updF_from _ _ _ h1 with h2 | h2
        · exact .inr ⟨0, t, rfl, hd, h2⟩
        · exact .inl h2
      · exact .inl h1
    · exact .inr ⟨j + 1, t', by simpa using h1, by rw [show i + (j + 1) = i + 1 + j by omega]; exact h2, h3⟩
section
variable {P : Program} {an : An}
def At (P : Program) (an : An) (k : Nat) (ops : Array Oper) (base : Nat) (o : Oper) (j : Nat) (tm : List U) (g : Nat → Option Obj) (nx nx' : Nat) : Option CallRes → Prop
  | some r => wantedU ops tm o = some true ∧ (∃ k', k' < k ∧ oper P an k' (base + 8 * j) o tm g nx = some r) ∧ nx' = r.nx
  | none => wantedU ops tm o = some false ∧ nx' = nx
theorem opers_trace {ops : Array Oper} {base : Nat} : ∀ (k : Nat) (l : List Oper) (i : Nat) (s s' : St) (rs rs' : List (Option CallRes)), opers P an k ops base l i s rs = some (s', rs') →
    ∃ rs2, rs' = rs ++ rs2 ∧ rs2.length = l.length ∧ getO s'.st = gE (getO s.st) (its l rs2) (fun _ => true) i ∧ s'.tm = tmE s.tm (its l rs2) (fun _ => true) i ∧
      ∃ nxs : Nat → Nat, nxs 0 = s.nx ∧ ∀ (j : Nat) o, l[j]? = some o → ∃ r, rs2[j]? = some r ∧
        At P an k ops base o (i + j) (tmE s.tm (its l rs2) (fun x => decide (x < i + j)) i) (gE (getO s.st) (its l rs2) (fun x => decide (x < i + j)) i) (nxs j) (nxs (j + 1)) r := by
  intro k
  induction k with
  | zero => intro l i s s' rs rs' h; simp [opers] at h
  | succ k ih =>
    intro l i s s' rs rs' h
    cases l with
    | nil =>
      simp only [opers, Option.some.injEq, Prod.mk.injEq] at h
      obtain ⟨rfl, rfl⟩ := h
      exact ⟨[], by simp, rfl, rfl, rfl, fun _ => s.nx, rfl, fun j o h => by simp at h⟩
    | cons o rest =>
      simp only [opers, forceN_eq, forceCR_eq, forceT_eq, forceL_eq, putK_eq, storeK_eq] at h
      have key : ∀ (r0 : Option CallRes) (s1 : St), opers P an k ops base rest (i + 1) s1 (rs ++ [r0]) = some (s', rs') → s1.tm = put s.tm o.dst (It.of o r0).u → getO s1.st = updF (getO s.st) (It.of o r0).up →
          At P an (k + 1) ops base o i s.tm (getO s.st) s.nx s1.nx r0 →
          ∃ rs2, rs' = rs ++ rs2 ∧ rs2.length = (o :: rest).length ∧ getO s'.st = gE (getO s.st) (its (o :: rest) rs2) (fun _ => true) i ∧ s'.tm = tmE s.tm (its (o :: rest) rs2) (fun _ => true) i ∧
            ∃ nxs : Nat → Nat, nxs 0 = s.nx ∧ ∀ (j : Nat) o', (o :: rest)[j]? = some o' → ∃ r, rs2[j]? = some r ∧
              At P an (k + 1) ops base o' (i + j) (tmE s.tm (its (o :: rest) rs2) (fun x => decide (x < i + j)) i) (gE (getO s.st) (its (o :: rest) rs2) (fun x => decide (x < i + j)) i) (nxs j) (nxs (j + 1)) r := by
        intro r0 s1 h1 htm hst hAt
        obtain ⟨rs2, e1, e2, e3, e4, nxs, e5, e6⟩ := ih rest (i + 1) s1 s' _ rs' h1
        have hdst : (It.of o r0).dst = o.dst := by cases r0 <;> rfl
        refine ⟨r0 :: rs2, by rw [e1]; simp, by simp [e2], ?_, ?_, fun j => match j with | 0 => s.nx | j + 1 => nxs j, rfl, fun j o' ho => ?_⟩
        · rw [e3, hst]; simp [its, gE]
        · rw [e4, htm]; simp [its, tmE, hdst]
        · cases j with
          | zero =>
            simp at ho
            subst ho
            refine ⟨r0, rfl, ?_⟩
            rw [gE_none _ _ _ _ (fun j hj => by simp; omega), tmE_none _ _ _ _ (fun j hj => by simp; omega)]
            show At P an (k + 1) ops base o i s.tm (getO s.st) s.nx (nxs 0) r0
            rw [e5]
            exact hAt
          | succ j =>
            simp only [List.getElem?_cons_succ] at ho
            obtain ⟨r, hr, hA⟩ := e6 j o' ho
            refine ⟨r, by simpa using hr, ?_⟩
            simp only [its, gE, tmE]
            have hlt : decide (i < i + (j + 1)) = true := by simp
            simp only [hlt, if_true]
            rw [show i + (j + 1) = i + 1 + j by omega]
            rw [hdst, ← htm, ← hst]
            cases r with
            | none => exact hA
            | some r => obtain ⟨a1, ⟨k', a2, a3⟩, a4⟩ := hA; exact ⟨a1, ⟨k', by omega, a3⟩, a4⟩
      split at h
      · rename_i hw
        split at h
        · rename_i r hr
          exact key (some r) _ h rfl (getO_setAll _ _) ⟨hw, ⟨k, Nat.lt_succ_self k, hr⟩, rfl⟩
        · simp at h
      · rename_i hw
        exact key none _ h rfl rfl ⟨hw, rfl⟩
      · simp at h
theorem bits_spec {acc : List Nat} {i : Nat} : ∀ {l : List Edge}, (bitsOf acc l).testBit i = true → ∃ e ∈ l, Region.binds .any e = true ∧ e.on < acc.length ∧ (i = e.on ∨ (acc.getD e.on 0).testBit i = true) := by
  intro l
  induction l with
  | nil => intro h; simp [bitsOf] at h
  | cons e l ih =>
    intro h
    simp only [bitsOf] at h
    split at h
    · rename_i hc
      simp only [Bool.and_eq_true, decide_eq_true_eq] at hc
      simp only [Nat.testBit_or, Bool.or_eq_true, Nat.testBit_two_pow, decide_eq_true_eq] at h
      rcases h with (h | h) | h
      · exact ⟨e, by simp, hc.1, hc.2, .inl h.symm⟩
      · exact ⟨e, by simp, hc.1, hc.2, .inr h⟩
      · obtain ⟨e', h1, h2⟩ := ih h
        exact ⟨e', by simp [h1], h2⟩
    · obtain ⟨e', h1, h2⟩ := ih h
      exact ⟨e', by simp [h1], h2⟩
theorem befsFrom_get : ∀ (l : List Oper) (acc : List Nat), (befsFrom acc l).length = acc.length + l.length ∧ (∀ j, j < acc.length → (befsFrom acc l).getD j 0 = acc.getD j 0) ∧
    ∀ (j : Nat) (o : Oper), l[j]? = some o → ∃ acc' : List Nat, acc'.length = acc.length + j ∧ (∀ i, i < acc'.length → acc'.getD i 0 = (befsFrom acc l).getD i 0) ∧ (befsFrom acc l).getD (acc.length + j) 0 = bitsOf acc' o.after.toList := by
  intro l
  induction l with
  | nil => intro acc; exact ⟨rfl, fun _ _ => rfl, fun j o h => by simp at h⟩
  | cons a l ih =>
    intro acc
    simp only [befsFrom, forceN_eq, forceL_eq]
    obtain ⟨h1, h2, h3⟩ := ih (acc ++ [bitsOf acc a.after.toList])
    refine ⟨by rw [h1]; simp; omega, fun j hj => ?_, fun j o ho => ?_⟩
    · rw [h2 j (by simp; omega)]
      simp [List.getD, List.getElem?_append_left hj]
    · cases j with
      | zero =>
        simp at ho
        subst ho
        refine ⟨acc, rfl, fun i hi => ?_, ?_⟩
        · rw [h2 i (by simp; omega)]
          simp [List.getD, List.getElem?_append_left hi]
        · rw [Nat.add_zero, h2 _ (by simp)]
          simp [List.getD]
      | succ j =>
        simp only [List.getElem?_cons_succ] at ho
        obtain ⟨acc', k1, k2, k3⟩ := h3 j o ho
        refine ⟨acc', by rw [k1]; simp; omega, k2, ?_⟩
        rw [← k3]
        congr 1
        simp; omega
theorem ahead_spec {ops : Array Oper} {i j : Nat} {o : Oper} (ho : ops[j]? = some o) (h : ahead ops i j = true) : ∃ e ∈ o.after, Region.binds .any e = true ∧ e.on < j ∧ (i = e.on ∨ ahead ops i e.on = true) := by
  obtain ⟨_, _, h3⟩ := befsFrom_get ops.toList []
  obtain ⟨acc', k1, k2, k3⟩ := h3 j o (by simpa using ho)
  unfold ahead befs at h
  simp only [List.length_nil, Nat.zero_add] at k1 k3
  rw [k3] at h
  obtain ⟨e, he, hb, hlt, h⟩ := bits_spec h
  refine ⟨e, by simpa using he, hb, by omega, ?_⟩
  rcases h with h | h
  · exact .inl h
  · rw [k2 _ hlt] at h
    exact .inr h
end
end Go.Proofs.Ytjofhegodknmaaa.V
