/- V: what the model's own check of a region says of its slots. -/
import Derived.Test.YtjofhegodknmaaaV15
set_option linter.unusedSimpArgs false
set_option linter.unusedVariables false
namespace Go.Proofs.Ytjofhegodknmaaa.V
open Go
def opnds (o : Oper) : List Nat := o.op.operands.toList.filterMap fun | .tmp t => some t | _ => none
structure SlotsP (ops : Array Oper) : Prop where
  edges : ∀ (j : Nat) y, ops[j]? = some y → ∀ e ∈ y.after, Region.binds .any e = true → e.on < j
  guard : ∀ (j : Nat) y g b, ops[j]? = some y → y.guard = some (g, b) → ahead ops g j = true
  slots : ∀ (i j : Nat) x y, i < j → ops[i]? = some x → ops[j]? = some y → ahead ops i j = true ∨
    (∀ t, x.dst = some t → t ∉ opnds y ∧ y.dst ≠ some t) ∧ (∀ t, y.dst = some t → t ∉ opnds x)
theorem foldl_bits {acc : Array Nat} {i : Nat} : ∀ (l : List Edge) (s : Nat), (l.foldl (fun s e => if Region.binds .any e then s ||| 2 ^ e.on ||| acc.getD e.on 0 else s) s).testBit i = true →
    s.testBit i = true ∨ ∃ e ∈ l, Region.binds .any e = true ∧ (i = e.on ∨ (acc.getD e.on 0).testBit i = true) := by
  intro l
  induction l with
  | nil => intro s h; exact .inl h
  | cons e l ih =>
    intro s h
    rw [List.foldl_cons] at h
    rcases ih _ h with h1 | ⟨e', h1, h2⟩
    · split at h1
      · rename_i hb
        simp only [Nat.testBit_or, Bool.or_eq_true, Nat.testBit_two_pow, decide_eq_true_eq] at h1
        rcases h1 with (h1 | h1) | h1
        · exact .inl h1
        · exact .inr ⟨e, by simp, hb, .inl h1.symm⟩
        · exact .inr ⟨e, by simp, hb, .inr h1⟩
      · exact .inl h1
    · exact .inr ⟨e', by simp [h1], h2⟩
theorem bits_of {acc : List Nat} {i : Nat} : ∀ {l : List Edge} {e : Edge}, e ∈ l → Region.binds .any e = true → e.on < acc.length → (i = e.on ∨ (acc.getD e.on 0).testBit i = true) → (bitsOf acc l).testBit i = true := by
  intro l
  induction l with
  | nil => intro e h; simp at h
  | cons a l ih =>
    intro e he hb hlt hi
    simp only [bitsOf]
    rcases List.mem_cons.1 he with rfl | he
    · have : (Region.binds .any e && decide (e.on < acc.length)) = true := by simp [hb, hlt]
      rw [if_pos this]
      simp only [Nat.testBit_or, Bool.or_eq_true, Nat.testBit_two_pow, decide_eq_true_eq]
      rcases hi with rfl | hi
      · exact .inl (.inl rfl)
      · exact .inl (.inr hi)
    · have := ih he hb hlt hi
      split
      · simp only [Nat.testBit_or, Bool.or_eq_true]; exact .inr this
      · exact this
theorem before_ahead : ∀ (l : List Oper) (acc : Array Nat) (acc' : List Nat), acc.size = acc'.length → (∀ (j i : Nat), (acc.getD j 0).testBit i = true → (acc'.getD j 0).testBit i = true) →
    (∀ (j : Nat) o, l[j]? = some o → ∀ e ∈ o.after, Region.binds .any e = true → e.on < acc.size + j) →
    ∀ (j i : Nat), ((l.foldl (fun acc o => acc.push (o.after.foldl (fun s e => if Region.binds .any e then s ||| 2 ^ e.on ||| acc.getD e.on 0 else s) 0)) acc).getD j 0).testBit i = true → ((befsFrom acc' l).getD j 0).testBit i = true := by
  intro l
  induction l with
  | nil => intro acc acc' _ h _ j i hb; exact h j i hb
  | cons o l ih =>
    intro acc acc' hsz h he j i hb
    rw [List.foldl_cons] at hb
    simp only [befsFrom, forceN_eq, forceL_eq]
    refine ih _ _ (by simp [hsz]) (fun j i hb => ?_) (fun j o' ho e hem hbi => ?_) j i hb
    · by_cases hj : j < acc.size
      · have h1 : (acc.push (o.after.foldl (fun s e => if Region.binds .any e then s ||| 2 ^ e.on ||| acc.getD e.on 0 else s) 0)).getD j 0 = acc.getD j 0 := by
          simp [Array.getElem?_push, hj, Nat.ne_of_lt hj]
        rw [h1] at hb
        have h2 : (acc' ++ [bitsOf acc' o.after.toList]).getD j 0 = acc'.getD j 0 := by simp [List.getD, List.getElem?_append_left (show j < acc'.length by omega)]
        rw [h2]
        exact h j i hb
      · by_cases hj2 : j = acc.size
        · subst hj2
          have h1 : (acc.push (o.after.foldl (fun s e => if Region.binds .any e then s ||| 2 ^ e.on ||| acc.getD e.on 0 else s) 0)).getD acc.size 0 = o.after.foldl (fun s e => if Region.binds .any e then s ||| 2 ^ e.on ||| acc.getD e.on 0 else s) 0 := by
            simp
          rw [h1, ← Array.foldl_toList] at hb
          have h2 : (acc' ++ [bitsOf acc' o.after.toList]).getD acc.size 0 = bitsOf acc' o.after.toList := by
            rw [hsz]; simp [List.getD]
          rw [h2]
          rcases foldl_bits _ _ hb with h3 | ⟨e, h3, h4, h5⟩
          · simp at h3
          · have hlt := he 0 o rfl e (by simpa using h3) h4
            refine bits_of h3 h4 (by omega) ?_
            rcases h5 with h5 | h5
            · exact .inl h5
            · exact .inr (h _ _ h5)
        · have h1 : (acc.push (o.after.foldl (fun s e => if Region.binds .any e then s ||| 2 ^ e.on ||| acc.getD e.on 0 else s) 0)).getD j 0 = 0 := by
            have : ¬ j < (acc.push (o.after.foldl (fun s e => if Region.binds .any e then s ||| 2 ^ e.on ||| acc.getD e.on 0 else s) 0)).size := by simp; omega
            unfold Array.getD
            rw [dif_neg this]
          rw [h1] at hb
          simp at hb
    · have := he (j + 1) o' (by simpa using ho) e hem hbi
      simp
      omega
theorem ahead_of_before {ops : Array Oper} (he : ∀ (j : Nat) o, ops[j]? = some o → ∀ e ∈ o.after, Region.binds .any e = true → e.on < j) {i j : Nat} (h : ((Region.before ops).getD j 0).testBit i = true) : ahead ops i j = true := by
  unfold ahead befs
  refine before_ahead ops.toList #[] [] rfl (fun j i h => by simp at h) (fun j o ho e hem hb => by simpa using he j o (by simpa using ho) e hem hb) j i ?_
  unfold Region.before at h
  rw [← Array.foldl_toList] at h
  exact h
theorem writers_mem (n : Nat) (hn : 0 < n) : ∀ (l : List (Oper × Nat)) (w : Array (List (Tmp × Nat))) (o : Oper) (i d : Nat), w.size = n → ((o, i) ∈ l ∧ o.dst = some d ∨ (d, i) ∈ w.getD (d % n) []) →
    (d, i) ∈ (l.foldl (fun w (x : Oper × Nat) => match x with | (o, i) => match o.dst with | some d => w.modify (d % n) ((d, i) :: ·) | none => w) w).getD (d % n) [] := by
  intro l
  induction l with
  | nil => intro w o i d hw h; rcases h with ⟨h, _⟩ | h; exact absurd h (by simp); exact h
  | cons a l ih =>
    intro w o i d hw h
    obtain ⟨o', i'⟩ := a
    rw [List.foldl_cons]
    simp only
    cases hd : o'.dst with
    | none =>
      simp only
      refine ih w o i d hw ?_
      rcases h with ⟨h, h2⟩ | h
      · rcases List.mem_cons.1 h with h | h
        · injection h with h3 h4; subst h3; rw [hd] at h2; simp at h2
        · exact .inl ⟨h, h2⟩
      · exact .inr h
    | some d' =>
      simp only
      refine ih _ o i d (by simp [hw]) ?_
      have hlt : d % n < w.size := by rw [hw]; exact Nat.mod_lt _ hn
      rcases h with ⟨h, h2⟩ | h
      · rcases List.mem_cons.1 h with h | h
        · injection h with h3 h4
          subst h3; subst h4
          rw [hd] at h2
          obtain rfl := Option.some.inj h2
          right
          simp [Array.getD, hlt, Array.getElem_modify]
        · exact .inl ⟨h, h2⟩
      · right
        simp only [Array.getD, hlt, Array.size_modify, dif_pos] at h ⊢
        simp only [Array.getInternal_eq_getElem, Array.getElem_modify] at h ⊢
        split
        · exact List.mem_cons_of_mem _ h
        · exact h
theorem slotsP_of_ok {types : Array TypeInfo} {ops : Array Oper} {draw : Bool} (h : Region.ok types ops draw = true) : SlotsP ops := by
  unfold Region.ok at h
  simp only [Bool.and_eq_true] at h
  obtain ⟨⟨⟨⟨h1, h2⟩, h3⟩, h4⟩, h5⟩ := h
  rw [Array.all_eq_true_iff_forall_mem] at h1
  have hz : ∀ (j : Nat) y, ops[j]? = some y → (y, j) ∈ ops.zipIdx := by
    intro j y hy
    rw [Array.mem_zipIdx_iff_getElem?]
    exact hy
  have hzl : ∀ (j : Nat) y, ops[j]? = some y → (y, j) ∈ ops.toList.zipIdx := by
    intro j y hy
    rw [List.mk_mem_zipIdx_iff_getElem?]
    simpa using hy
  have hedges : ∀ (j : Nat) y, ops[j]? = some y → ∀ e ∈ y.after, Region.binds .any e = true → e.on < j := by
    intro j y hy e he hb
    have h6 := h1 _ (hz j y hy)
    simp only [Bool.and_eq_true] at h6
    have h7 := Array.all_eq_true_iff_forall_mem.1 h6.1 e he
    simp only [Bool.or_eq_true, decide_eq_true_eq] at h7
    rcases h7 with h7 | h7
    · exact h7
    · unfold Region.binds at hb
      cases hg : e.ground <;> simp [hg] at h7 hb
  have hbef : ∀ {i j : Nat}, ((Region.before ops).getD j 0).testBit i = true → ahead ops i j = true := fun h => ahead_of_before hedges h
  refine ⟨hedges, fun j y g b hy hgd => ?_, fun i j x y hij hx hy => ?_⟩
  · have h6 := h1 _ (hz j y hy)
    simp only [Bool.and_eq_true] at h6
    have h7 := h6.2
    rw [hgd] at h7
    simp only [Bool.and_eq_true] at h7
    obtain ⟨e, he, hcond⟩ := Array.any_eq_true'.1 h7.1
    simp only [Bool.and_eq_true, beq_iff_eq] at hcond
    have hlt := hedges j y hy e he hcond.2
    rw [← hcond.1]
    unfold ahead befs
    obtain ⟨_, _, h8⟩ := befsFrom_get ops.toList []
    obtain ⟨acc', k1, k2, k3⟩ := h8 j y (by simpa using hy)
    simp only [List.length_nil, Nat.zero_add] at k1 k3
    rw [k3]
    exact bits_of (by simpa using he) hcond.2 (by omega) (.inl rfl)
  · have hi : i < ops.size := (Array.getElem?_eq_some_iff.1 hx).1
    have hn : 0 < ops.size := by omega
    unfold Region.temporariesOk at h2
    simp only [List.all_eq_true] at h2
    have key : ∀ (a b : Nat) (xa xb : Oper) (t : Nat), ops[a]? = some xa → ops[b]? = some xb → a ≠ b → xa.dst = some t → (xb.dst = some t ∨ t ∈ opnds xb) → ((Region.before ops).getD (max a b) 0).testBit (min a b) = true := by
      intro a b xa xb t ha hb hne hda hnb
      have h6 := h2 _ (hzl b xb hb) t (by
        simp only [List.mem_append]
        rcases hnb with hnb | hnb
        · left; rw [hnb]; simp
        · right; exact hnb)
      have hw := writers_mem ops.size hn ops.toList.zipIdx (Array.replicate ops.size []) xa a t (by simp) (.inl ⟨hzl a xa ha, hda⟩)
      have h7 := h6 _ hw
      simp only [bne_self_eq_false, Bool.false_or, Bool.or_eq_true, beq_iff_eq] at h7
      rcases h7 with h7 | h7
      · exact absurd h7 hne
      · exact h7
    by_cases hah : ahead ops i j = true
    · exact .inl hah
    · right
      have no : ∀ {t : Nat}, ((Region.before ops).getD (max i j) 0).testBit (min i j) = true → False := fun h => by
        rw [Nat.max_eq_right (by omega), Nat.min_eq_left (by omega)] at h
        exact hah (hbef h)
      have no' : ((Region.before ops).getD (max j i) 0).testBit (min j i) = true → False := fun h => by
        rw [Nat.max_eq_left (by omega), Nat.min_eq_right (by omega)] at h
        exact hah (hbef h)
      refine ⟨fun t ht => ⟨fun hm => no (t := t) (key i j x y t hx hy (by omega) ht (.inr hm)), fun hd => no (t := t) (key i j x y t hx hy (by omega) ht (.inl hd))⟩, fun t ht hm => no' (key j i y x t hy hx (by omega) ht (.inr hm))⟩
def Regs : Code → Prop
  | .region _ ops _ => SlotsP ops
  | .seq a b => Regs a ∧ Regs b
  | .cond _ a b => Regs a ∧ Regs b
  | .block _ b => Regs b
  | .loop b => Regs b
  | _ => True
def RegsP (P : Program) : Prop := ∀ (f : Nat) fn c, P.funcs[f]? = some fn → fn.body = some c → Regs c
theorem ex_bind {α β : Type} {x : Except String α} {f : α → Except String β} {b : β} (h : (x >>= f) = .ok b) : ∃ a, x = .ok a ∧ f a = .ok b := by
  cases x with
  | error e => simp [bind, Except.bind] at h
  | ok a => exact ⟨a, rfl, h⟩
theorem ex_bind_unit {β : Type} {x : Except String Unit} {y : Except String β} {b : β} (h : (do x; y) = .ok b) : x = .ok () ∧ y = .ok b := by
  obtain ⟨a, h1, h2⟩ := ex_bind h
  exact ⟨h1, h2⟩
theorem req_ok {b : Bool} {m : String} {u : Unit} (h : CheckCode.require b m = .ok u) : b = true := by
  unfold CheckCode.require at h
  split at h
  · assumption
  · simp [throw, throwThe, MonadExceptOf.throw] at h
theorem regs_of_code {p : Program} {f : Func} : ∀ (c : Code) (bl la : List Nat), CheckCode.code p f bl la c = .ok () → Regs c := by
  intro c
  induction c with
  | region id ops draw =>
    intro bl la h
    unfold CheckCode.code CheckCode.region at h
    obtain ⟨_, h⟩ := ex_bind_unit h
    obtain ⟨_, h⟩ := ex_bind_unit h
    exact slotsP_of_ok (req_ok h)
  | seq a b iha ihb =>
    intro bl la h
    unfold CheckCode.code at h
    obtain ⟨h1, h2⟩ := ex_bind_unit h
    exact ⟨iha _ _ h1, ihb _ _ h2⟩
  | cond c a b iha ihb =>
    intro bl la h
    unfold CheckCode.code at h
    obtain ⟨_, h⟩ := ex_bind_unit h
    obtain ⟨h1, h2⟩ := ex_bind_unit h
    exact ⟨iha _ _ h1, ihb _ _ h2⟩
  | block id b ih => intro bl la h; unfold CheckCode.code at h; exact ih _ _ h
  | loop b ih => intro bl la h; unfold CheckCode.code at h; exact ih _ _ h
  | _ => intro bl la h; trivial
theorem forM_ok {α : Type} {f : α → Except String Unit} : ∀ {l : List α}, l.forM f = .ok () → ∀ x ∈ l, f x = .ok () := by
  intro l
  induction l with
  | nil => intro _ x hx; simp at hx
  | cons a l ih =>
    intro h x hx
    have h : (do f a; l.forM f) = Except.ok () := h
    obtain ⟨h1, h2⟩ := ex_bind_unit h
    rcases List.mem_cons.1 hx with rfl | hx
    · exact h1
    · exact ih h2 x hx
theorem regs_of_check {P : Program} (h : P.check = .ok ()) : RegsP P := by
  intro f fn c hf hb
  unfold Program.check at h
  obtain ⟨h1, _⟩ := ex_bind_unit h
  have hlt : f < P.funcs.size := (Array.getElem?_eq_some_iff.1 hf).1
  have h2 := forM_ok h1 f (List.mem_range.2 hlt)
  unfold CheckCode.funcAt at h2
  rw [hf] at h2
  simp only at h2
  have h3 : CheckCode.func P fn = .ok () := by
    cases hx : CheckCode.func P fn with
    | error e => rw [hx] at h2; simp [Except.mapError] at h2
    | ok u => rfl
  unfold CheckCode.func at h3
  obtain ⟨_, h3⟩ := ex_bind_unit h3
  obtain ⟨_, h3⟩ := ex_bind_unit h3
  obtain ⟨_, _, h3⟩ := ex_bind h3
  rw [hb] at h3
  simp only at h3
  obtain ⟨_, h3⟩ := ex_bind_unit h3
  obtain ⟨h3, _⟩ := ex_bind_unit h3
  exact regs_of_code c _ _ h3
end Go.Proofs.Ytjofhegodknmaaa.V
