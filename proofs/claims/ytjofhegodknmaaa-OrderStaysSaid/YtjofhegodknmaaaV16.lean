/- V, 16: regions in any order come to what the order of the text comes to. -/
import Derived.Test.YtjofhegodknmaaaVR
set_option linter.unusedSimpArgs false
set_option linter.unusedVariables false
namespace Go.Proofs.Ytjofhegodknmaaa.V
open Go
variable [Sig]
def upR : Option CallRes → List Nat
  | some r => r.res.up.map (·.1)
  | none => []
def rdR : Option CallRes → List Nat
  | some r => r.res.rd
  | none => []
def clR : Option CallRes → Bool
  | some r => r.cl
  | none => false
theorem of_dst (o : Oper) (r : Option CallRes) : (It.of o r).dst = o.dst := by have _s : Sig := inferInstance; cases r <;> rfl
theorem of_up (o : Oper) (r : Option CallRes) : (It.of o r).up.map (·.1) = upR r := by have _s : Sig := inferInstance; cases r <;> rfl
structure Apart (ops : Array Oper) (x y : Oper) (a b : Option CallRes) : Prop where
  d1 : ∀ t, x.dst = some t → t ∉ looks ops y
  d2 : ∀ t, y.dst = some t → t ∉ looks ops x
  d3 : ∀ t, x.dst = some t → y.dst ≠ some t
  u1 : ∀ z ∈ upR a, z ∉ rdR b
  u2 : ∀ z ∈ upR a, z ∉ upR b
  u3 : ∀ z ∈ rdR a, z ∉ upR b
  c : ¬ (clR a = true ∧ clR b = true)
theorem disj_spec {a b : List Nat} (h : disj a b = true) : ∀ x ∈ a, x ∉ b := by
  have _s : Sig := inferInstance
  intro x hx
  unfold disj at h
  rw [List.all_eq_true] at h
  have := h x hx
  simpa using this
theorem acts_get : ∀ (rs : List (Option CallRes)) (k i : Nat) (r : CallRes), rs[i]? = some (some r) → quiet (some r) = false → (k + i, r) ∈ acts rs k := by
  have _s : Sig := inferInstance
  intro rs
  induction rs with
  | nil => intro k i r h; simp at h
  | cons a rs ih =>
    intro k i r h hq
    cases i with
    | zero => simp at h; subst h; simp [acts, hq]
    | succ i =>
      simp at h
      have := ih (k + 1) i r h hq
      rw [show k + (i + 1) = k + 1 + i by omega]
      cases a with
      | none => exact this
      | some a => simp only [acts]; split <;> simp [this]
theorem dup_spec {d : Nat} : ∀ (l : List Oper) (seen dup : Nat), dup.testBit d = true ∨ (seen.testBit d = true ∧ ∃ (i : Nat) (o : Oper), l[i]? = some o ∧ o.dst = some d) ∨
    (∃ (i j : Nat) (x y : Oper), i < j ∧ l[i]? = some x ∧ l[j]? = some y ∧ x.dst = some d ∧ y.dst = some d) → (dupOf seen dup l).testBit d = true := by
  have _s : Sig := inferInstance
  intro l
  induction l with
  | nil =>
    intro seen dup h
    rcases h with h | ⟨_, i, o, h, _⟩ | ⟨i, j, x, y, _, h, _⟩
    · exact h
    · simp at h
    · simp at h
  | cons a l ih =>
    intro seen dup h
    simp only [dupOf, forceN_eq]
    cases hd : a.dst with
    | none =>
      simp only
      refine ih seen dup ?_
      rcases h with h | ⟨h, i, o, h1, h2⟩ | ⟨i, j, x, y, h0, h1, h2, h3, h4⟩
      · exact .inl h
      · cases i with
        | zero => simp at h1; subst h1; rw [hd] at h2; simp at h2
        | succ i => exact .inr (.inl ⟨h, i, o, by simpa using h1, h2⟩)
      · cases j with
        | zero => omega
        | succ j =>
          cases i with
          | zero => simp at h1; subst h1; rw [hd] at h3; simp at h3
          | succ i => exact .inr (.inr ⟨i, j, x, y, by omega, by simpa using h1, by simpa using h2, h3, h4⟩)
    | some d' =>
      simp only
      have later : ∀ (j : Nat) (y : Oper), l[j]? = some y → y.dst = some d → (seen.testBit d = true ∨ d' = d) → (if seen.testBit d' = true then dupOf seen (dup ||| 2 ^ d') l else dupOf (seen ||| 2 ^ d') dup l).testBit d = true := by
        intro j y hj hy hsd
        split
        · rename_i hsd'
          rcases hsd with hsd | rfl
          · exact ih _ _ (.inr (.inl ⟨hsd, j, y, hj, hy⟩))
          · exact ih _ _ (.inr (.inl ⟨hsd', j, y, hj, hy⟩))
        · refine ih _ _ (.inr (.inl ⟨?_, j, y, hj, hy⟩))
          simp only [Nat.testBit_or, Bool.or_eq_true, Nat.testBit_two_pow, decide_eq_true_eq]
          exact hsd
      rcases h with h | ⟨h, i, o, h1, h2⟩ | ⟨i, j, x, y, h0, h1, h2, h3, h4⟩
      · split
        · exact ih _ _ (.inl (by simp [h]))
        · exact ih _ _ (.inl h)
      · cases i with
        | zero =>
          simp at h1
          subst h1
          rw [hd] at h2
          obtain rfl := Option.some.inj h2
          rw [if_pos h]
          exact ih _ _ (.inl (by simp [Nat.testBit_two_pow]))
        | succ i => exact later i o (by simpa using h1) h2 (.inl h)
      · cases j with
        | zero => omega
        | succ j =>
          cases i with
          | zero =>
            simp at h1
            subst h1
            rw [hd] at h3
            exact later j y (by simpa using h2) h4 (.inr (Option.some.inj h3))
          | succ i =>
            have hgo : ∀ seen dup, (dupOf seen dup l).testBit d = true := fun seen dup => ih _ _ (.inr (.inr ⟨i, j, x, y, by omega, by simpa using h1, by simpa using h2, h3, h4⟩))
            split
            · exact hgo _ _
            · exact hgo _ _
theorem guards_spec {ops : Array Oper} (h : guardsOk ops = true) {j g i : Nat} {y z x : Oper} {b : Bool} {d : Nat} (hy : ops[j]? = some y) (hg : y.guard = some (g, b)) (hz : ops[g]? = some z) (hd : z.dst = some d)
    (hx : ops[i]? = some x) (hne : i ≠ g) : x.dst ≠ some d := by
  intro hxd
  have hdup : (dupOf 0 0 ops.toList).testBit d = true := by
    refine dup_spec ops.toList 0 0 (.inr (.inr ?_))
    rcases Nat.lt_or_ge i g with hlt | hge
    · exact ⟨i, g, x, z, hlt, by simpa using hx, by simpa using hz, hxd, hd⟩
    · exact ⟨g, i, z, x, by omega, by simpa using hz, by simpa using hx, hd, hxd⟩
  unfold guardsOk at h
  simp only [forceN_eq, Bool.or_eq_true, beq_iff_eq, List.all_eq_true] at h
  rcases h with h | h
  · rw [h] at hdup; simp at hdup
  · have h1 := h y (by simpa using Array.mem_of_getElem? hy)
    rw [hg] at h1
    simp only [hz, Option.bind_some, hd] at h1
    rw [hdup] at h1
    simp at h1
theorem regionOk_spec {ops : Array Oper} {rs : List (Option CallRes)} (hs : SlotsP ops) (h : regionOk ops rs = true) :
    (∀ (j : Nat) y, ops[j]? = some y → ∀ e ∈ y.after, Region.binds .any e = true → e.on < j) ∧
    ∀ (i j : Nat) x y a b, i < j → ops[i]? = some x → ops[j]? = some y → rs[i]? = some a → rs[j]? = some b → ahead ops i j = true ∨ Apart ops x y a b := by
  refine ⟨hs.edges, ?_⟩
  unfold regionOk at h
  simp only [forceL_eq, Bool.and_eq_true] at h
  obtain ⟨hgu, hac⟩ := h
  intro i j x y a b hij hx hy ha hb
  by_cases hah : ahead ops i j = true
  · exact .inl hah
  · rcases hs.slots i j x y hij hx hy with h2 | ⟨h2, h3⟩
    · exact .inl h2
    · have hlk : ∀ (o : Oper) (t : Nat), t ∈ looks ops o → t ∈ opnds o ∨ ∃ g b' z, o.guard = some (g, b') ∧ ops[g]? = some z ∧ z.dst = some t := by
        intro o t ht
        unfold looks at ht
        rcases List.mem_append.1 ht with ht | ht
        · exact .inl ht
        · right
          cases hg : o.guard with
          | none => rw [hg] at ht; simp at ht
          | some p =>
            obtain ⟨g, b'⟩ := p
            rw [hg] at ht
            simp only [Option.mem_toList] at ht
            obtain ⟨z, hz, hzd⟩ := Option.bind_eq_some_iff.1 ht
            exact ⟨g, b', z, rfl, hz, hzd⟩
      have k1 : ∀ t, x.dst = some t → t ∉ looks ops y := by
        intro t ht hm
        rcases hlk y t hm with hm | ⟨g, b', z, hg, hz, hzd⟩
        · exact (h2 t ht).1 hm
        · by_cases hig : i = g
          · subst hig; exact hah (hs.guard j y _ b' hy hg)
          · exact guards_spec hgu hy hg hz hzd hx hig ht
      have k2 : ∀ t, y.dst = some t → t ∉ looks ops x := by
        intro t ht hm
        rcases hlk x t hm with hm | ⟨g, b', z, hg, hz, hzd⟩
        · exact h3 t ht hm
        · by_cases hjg : j = g
          · subst hjg
            obtain ⟨e, he, hbi, hlt, _⟩ := ahead_spec hx (hs.guard i x _ b' hx hg)
            have hgi : ahead ops j i = true := hs.guard i x _ b' hx hg
            have small : ∀ (n i j : Nat), j ≤ n → ahead ops i j = true → (∃ o, ops[j]? = some o) → i < j := by
              intro n
              induction n with
              | zero =>
                intro i j hj h ⟨o, ho⟩
                obtain ⟨e, _, _, h5, _⟩ := ahead_spec ho h
                omega
              | succ n ih =>
                intro i j hj h ⟨o, ho⟩
                obtain ⟨e, h4, h5, h6, h7⟩ := ahead_spec ho h
                rcases h7 with h7 | h7
                · omega
                · have hle : e.on < ops.size := by have := (Array.getElem?_eq_some_iff.1 ho).1; omega
                  have := ih i e.on (by omega) h7 ⟨ops[e.on], Array.getElem?_eq_getElem hle⟩
                  omega
            have := small i j i (Nat.le_refl _) hgi ⟨x, hx⟩
            omega
          · exact guards_spec hgu hx hg hz hzd hy hjg ht
      have k3 : ∀ t, x.dst = some t → y.dst ≠ some t := fun t ht => (h2 t ht).2
      have none1 : upR a = [] → rdR a = [] → clR a = false → Apart ops x y a b := fun e1 e2 e3 =>
        ⟨k1, k2, k3, fun z hz => by rw [e1] at hz; simp at hz, fun z hz => by rw [e1] at hz; simp at hz, fun z hz => by rw [e2] at hz; simp at hz, fun hc => by rw [e3] at hc; simp at hc⟩
      have none2 : upR b = [] → rdR b = [] → clR b = false → Apart ops x y a b := fun e1 e2 e3 =>
        ⟨k1, k2, k3, fun z hz => by rw [e2]; simp, fun z hz => by rw [e1]; simp, fun z hz => by rw [e1]; simp, fun hc => by rw [e3] at hc; simp at hc⟩
      cases a with
      | none => exact .inr (none1 rfl rfl rfl)
      | some a =>
        cases b with
        | none => exact .inr (none2 rfl rfl rfl)
        | some b =>
          by_cases qa : quiet (some a) = true
          · simp only [quiet, Bool.and_eq_true, List.isEmpty_iff, Bool.not_eq_true'] at qa
            exact .inr (none1 (by simp [upR, qa.1.1]) qa.1.2 qa.2)
          · by_cases qb : quiet (some b) = true
            · simp only [quiet, Bool.and_eq_true, List.isEmpty_iff, Bool.not_eq_true'] at qb
              exact .inr (none2 (by simp [upR, qb.1.1]) qb.1.2 qb.2)
            · have ma := acts_get rs 0 i a ha (by simpa using qa)
              have mb := acts_get rs 0 j b hb (by simpa using qb)
              rw [Nat.zero_add] at ma mb
              unfold actsOk at hac
              simp only [Bool.or_eq_true, List.all_eq_true] at hac
              rcases hac with hac | hac
              · have ha' := hac _ ma
                have hb' := hac _ mb
                simp only [Bool.and_eq_true, List.isEmpty_iff, Bool.not_eq_true'] at ha' hb'
                right
                exact ⟨k1, k2, k3, fun z hz => by simp [upR, ha'.1] at hz, fun z hz => by simp [upR, ha'.1] at hz, fun z hz => by simp [upR, hb'.1], fun hc => by simp [clR, ha'.2] at hc⟩
              · rcases hac _ mb _ ma with (h5 | h5) | h5
                · simp [hij] at h5
                · unfold memApart at h5
                  simp only [Bool.and_eq_true] at h5
                  obtain ⟨⟨⟨g1, g2⟩, g3⟩, g4⟩ := h5
                  right
                  refine ⟨k1, k2, k3, disj_spec g1, disj_spec g2, disj_spec g3, fun hc => ?_⟩
                  simp only [clR] at hc
                  simp [hc.1, hc.2] at g4
                · exact .inl h5
theorem cnt_lt {α : Type} {p p' : α → Bool} : ∀ (l : List α), (∀ x ∈ l, p' x = true → p x = true) → (∃ x ∈ l, p x = true ∧ p' x = false) → (l.filter p').length < (l.filter p).length := by
  have _s : Sig := inferInstance
  have le : ∀ (l : List α), (∀ x ∈ l, p' x = true → p x = true) → (l.filter p').length ≤ (l.filter p).length := by
    intro l
    induction l with
    | nil => intro _; exact Nat.le_refl _
    | cons a l ih =>
      intro h
      have := ih fun x hx => h x (by simp [hx])
      by_cases h1 : p' a = true
      · simp [List.filter_cons, h1, h a (by simp) h1, this]
      · by_cases h2 : p a = true
        · simp [List.filter_cons, h1, h2]; omega
        · simp [List.filter_cons, h1, h2, this]
  intro l
  induction l with
  | nil => intro _ h; obtain ⟨x, hx, _⟩ := h; simp at hx
  | cons a l ih =>
    intro h hx
    have hle := le l fun x hx => h x (by simp [hx])
    by_cases h1 : p a = true ∧ p' a = false
    · simp [List.filter_cons, h1.1, h1.2]; omega
    · have hl : ∃ x ∈ l, p x = true ∧ p' x = false := by
        obtain ⟨x, hx, hp⟩ := hx
        rcases List.mem_cons.1 hx with rfl | hx
        · exact absurd hp h1
        · exact ⟨x, hx, hp⟩
      have := ih (fun x hx => h x (by simp [hx])) hl
      by_cases h2 : p' a = true
      · simp [List.filter_cons, h2, h a (by simp) h2, this]
      · have h3 : ¬ p a = true := fun e => h1 ⟨e, by simpa using h2⟩
        simp [List.filter_cons, h2, h3, this]
theorem listed_false {listed : Array Bool} {j : Nat} (h : listed.getD j true = false) : j < listed.size ∧ listed.getD j false = false := by
  have _s : Sig := inferInstance
  rcases Nat.lt_or_ge j listed.size with h' | h'
  · refine ⟨h', ?_⟩
    simp [Array.getD, h'] at h ⊢
    exact h
  · simp [Array.getD, Nat.not_lt.2 h'] at h
theorem listed_false' {listed : Array Bool} {j : Nat} (hj : j < listed.size) (h : listed.getD j false = false) : listed.getD j true = false := by
  have _s : Sig := inferInstance
  simp [Array.getD, hj] at h ⊢
  exact h
section
variable {P : Program} {an : An}
theorem region_any (hN : Good P an) (hm : P.follows .mixedOrders = true) {Q : Exit → Act → World → Prop} {k id : Nat} {ops : Array Oper} {s s' : St} {rs : List (Option CallRes)} {w : World} {F : Mem} {L : Lay} {b0 : Nat} {a : Act}
    (hreg : SlotsP ops) (hk : ∀ j, j < k → PcOk P an j) (h : opers P an k ops s.nx ops.toList 0 { s with nx := s.nx + 8 * ops.size } [] = some (s', rs)) (hok : regionOk ops rs = true)
    (hS : SR w F L b0 (getO s.st)) (hT : TR F L s.tm a.tmps) (hnx : ∀ x, s.nx ≤ x → getO s.st x = none) (hb : b0 ≤ w.heap.size)
    (hQ : ∀ a' w' F' L', Evo w F L w' F' L' → SR w' F' L' b0 (getO s'.st) → TR F' L' s'.tm a'.tmps → a'.defers = a.defers → Q .normal a' w') : (Code.region id ops true).wp P Q a w := by
  obtain ⟨rs2, e1, e2, e3, e4, nxs, e5, e6⟩ := opers_trace k ops.toList 0 _ s' [] rs h
  simp only [List.nil_append] at e1
  subst e1
  simp only at e3 e4 e5 e6
  simp only [Nat.zero_add] at e6
  generalize hTt : its ops.toList rs = T at e3 e4 e6
  obtain ⟨hlt, hpair⟩ := regionOk_spec hreg hok
  have hlen : rs.length = ops.size := by rw [e2]; simp
  have hTlen : T.length = ops.size := by
    rw [← hTt]
    have : ∀ (l : List Oper) (r : List (Option CallRes)), r.length = l.length → (its l r).length = l.length := by
      intro l
      induction l with
      | nil => intro r _; rfl
      | cons a l ih =>
        intro r hr
        cases r with
        | nil => simp at hr
        | cons b r => simp [its, ih r (by simpa using hr)]
    rw [this _ _ e2]; simp
  have hTget : ∀ (j : Nat) (o : Oper) (r : Option CallRes), ops[j]? = some o → rs[j]? = some r → T[j]? = some (.of o r) := fun j o r ho hr => by
    rw [← hTt]; exact its_get _ _ j o r (by simpa using ho) hr
  have hTback : ∀ (j : Nat) (t : It), T[j]? = some t → ∃ o r, ops[j]? = some o ∧ rs[j]? = some r ∧ t = .of o r := fun j t ht => by
    rw [← hTt] at ht
    obtain ⟨o, r, h1, h2, h3⟩ := its_back _ _ j t ht
    exact ⟨o, r, by simpa using h1, h2, h3⟩
  have hAt : ∀ (j : Nat) (o : Oper), ops[j]? = some o → ∃ r, rs[j]? = some r ∧ At P an k ops s.nx o j (tmE s.tm T (fun x => decide (x < j)) 0) (gE (getO s.st) T (fun x => decide (x < j)) 0) (nxs j) (nxs (j + 1)) r := fun j o ho => e6 j o (by simpa using ho)
  have hstep : ∀ j, j < ops.size → nxs j ≤ nxs (j + 1) := by
    intro j hj
    obtain ⟨r, _, hA⟩ := hAt j ops[j] (Array.getElem?_eq_getElem hj)
    cases r with
    | none => have := hA.2; omega
    | some r => obtain ⟨_, ⟨k', _, hr⟩, e⟩ := hA; have := ((gr_all P an k').2.2.1 _ _ _ _ _ _ hr).le; omega
  have hmono : ∀ j, j ≤ ops.size → ∀ i, i ≤ j → nxs i ≤ nxs j := by
    intro j
    induction j with
    | zero => intro _ i hi; have : i = 0 := by omega
              subst this; exact Nat.le_refl _
    | succ j ih =>
      intro hj i hi
      by_cases e : i = j + 1
      · rw [e]; exact Nat.le_refl _
      · exact Nat.le_trans (ih (by omega) i (by omega)) (hstep j (by omega))
  have hbase : ∀ j, j ≤ ops.size → s.nx + 8 * ops.size ≤ nxs j := fun j hj => by have := hmono j hj 0 (Nat.zero_le _); omega
  let news (i x : Nat) : Prop := x = s.nx + 8 * i ∨ (∃ r, rs[i]? = some r ∧ clR r = true ∧ nxs i ≤ x ∧ x < nxs (i + 1))
  have hnews : ∀ (j : Nat) (t : It) (x : Nat), T[j]? = some t → x ∈ t.up.map (·.1) → getO s.st x ≠ none ∨ ∃ i t', i ≤ j ∧ news i x ∧ T[i]? = some t' ∧ x ∈ t'.up.map (·.1) := by
    intro j
    induction j using Nat.strongRecOn with
    | _ j ih =>
      intro t x ht hx
      obtain ⟨o, r, ho, hr, rfl⟩ := hTback j t ht
      obtain ⟨r', hr', hA⟩ := hAt j o ho
      rw [hr] at hr'
      obtain rfl := Option.some.inj hr'
      cases r with
      | none => rw [of_up] at hx; simp [upR] at hx
      | some r =>
        obtain ⟨_, ⟨k', _, hrun⟩, e⟩ := hA
        have hu := (gr_all P an k').2.2.1 _ _ _ _ _ _ hrun
        have hx2 := hx
        rw [of_up] at hx2
        rcases hu.up x hx2 with h1 | ⟨h1, h2, h3⟩ | h1
        · exact .inr ⟨j, _, Nat.le_refl _, .inl h1, ht, hx⟩
        · exact .inr ⟨j, _, Nat.le_refl _, .inr ⟨some r, hr, h1, h2, by omega⟩, ht, hx⟩
        · rcases gE_from T _ _ 0 x h1 with h2 | ⟨i, t', h2, h3, h4⟩
          · exact .inl h2
          · simp at h3
            rcases ih i h3 t' x h2 h4 with h5 | ⟨i', t2, h5, h6, h7, h8⟩
            · exact .inl h5
            · exact .inr ⟨i', t2, by omega, h6, h7, h8⟩
  have hfresh : ∀ (D : Nat → Bool), (∀ j, j < ops.size → D j = true → ∀ i, ahead ops i j = true → D i = true) → ∀ x, gE (getO s.st) T D 0 x ≠ none → getO s.st x ≠ none ∨ ∃ i, D i = true ∧ i < ops.size ∧ news i x := by
    intro D hD x hx
    rcases gE_from T _ _ 0 x hx with h1 | ⟨j, t, h1, h2, h3⟩
    · exact .inl h1
    · rw [Nat.zero_add] at h2
      have hj : j < ops.size := by rw [← hTlen]; exact (List.getElem?_eq_some_iff.1 h1).1
      rcases hnews j t x h1 h3 with h4 | ⟨i, t', h4, h5, h6, h7⟩
      · exact .inl h4
      · by_cases e : i = j
        · subst e; exact .inr ⟨i, h2, hj, h5⟩
        · obtain ⟨o, r, ho, hr, rfl⟩ := hTback j t h1
          obtain ⟨o', r', ho', hr', rfl⟩ := hTback i t' h6
          rcases hpair i j o' o r' r (by omega) ho' ho hr' hr with hbf | hap
          · exact .inr ⟨i, hD j hj h2 i hbf, by omega, h5⟩
          · rw [of_up] at h3 h7
            exact absurd h3 (hap.u2 x h7)
  have hbefs : ∀ (j : Nat) (o : Oper) (D : Nat → Bool), ops[j]? = some o → (∀ i, i < ops.size → D i = true → ∀ x, ahead ops x i = true → D x = true) → (∀ e ∈ o.after, Region.binds .any e = true → D e.on = true) →
      ∀ i, ahead ops i j = true → D i = true := by
    intro j o D ho hD he i hi
    have hjs : j < ops.size := (Array.getElem?_eq_some_iff.1 ho).1
    obtain ⟨e, h1, h2, h3, h4⟩ := ahead_spec ho hi
    have h5 := he e h1 h2
    rcases h4 with rfl | h4
    · exact h5
    · exact hD e.on (by omega) h5 i h4
  have main : ∀ (fuel : Nat) (listed : Array Bool) (a : Act) (w : World) (F : Mem) (L : Lay), listed.size = ops.size → ((List.range ops.size).filter (fun j => !listed.getD j false)).length ≤ fuel →
      (∀ j, j < ops.size → listed.getD j false = true → ∀ i, ahead ops i j = true → listed.getD i false = true) →
      SR w F L b0 (gE (getO s.st) T (fun j => listed.getD j false) 0) → TR F L (tmE s.tm T (fun j => listed.getD j false) 0) a.tmps → b0 ≤ w.heap.size →
      (∀ a' w' F' L', Evo w F L w' F' L' → SR w' F' L' b0 (getO s'.st) → TR F' L' s'.tm a'.tmps → a'.defers = a.defers → Q .normal a' w') → wpAny P .any ops Q fuel listed a w := by
    intro fuel
    have full : ∀ (listed : Array Bool) (a : Act) (w : World) (F : Mem) (L : Lay), (∀ j, j < ops.size → listed.getD j false = true) →
        SR w F L b0 (gE (getO s.st) T (fun j => listed.getD j false) 0) → TR F L (tmE s.tm T (fun j => listed.getD j false) 0) a.tmps →
        (∀ a' w' F' L', Evo w F L w' F' L' → SR w' F' L' b0 (getO s'.st) → TR F' L' s'.tm a'.tmps → a'.defers = a.defers → Q .normal a' w') → Q .normal a w := by
      intro listed a w F L hall hS hT hQ
      rw [gE_congr T _ _ (fun _ => true) 0 (fun j hj => by rw [Nat.zero_add]; exact hall j (by omega))] at hS
      rw [tmE_congr T _ _ (fun _ => true) 0 (fun j hj => by rw [Nat.zero_add]; exact hall j (by omega))] at hT
      exact hQ a w F L (.refl _ _ _) (by rw [e3]; exact hS) (by rw [e4]; exact hT) rfl
    have noReady : ∀ (listed : Array Bool), listed.size = ops.size → Region.ready .any ops listed = [] → ∀ j, j < ops.size → listed.getD j false = true := by
      intro listed hsz hr j
      induction j using Nat.strongRecOn with
      | _ j ih =>
        intro hj
        cases hd : listed.getD j false with
        | true => rfl
        | false =>
          have : j ∈ Region.ready .any ops listed := by
            rw [mem_ready]
            refine ⟨listed_false' (by omega) hd, ops[j], Array.getElem?_eq_getElem hj, fun e he hbi => ?_⟩
            have := hlt j _ (Array.getElem?_eq_getElem hj) e he hbi
            exact ih e.on this (by omega)
          rw [hr] at this
          simp at this
    induction fuel with
    | zero =>
      intro listed a w F L hsz hcnt hdown hS hT hb hQ
      have hall : ∀ j, j < ops.size → listed.getD j false = true := by
        intro j hj
        have h0 : (List.range ops.size).filter (fun j => !listed.getD j false) = [] := List.length_eq_zero_iff.1 (by omega)
        rw [List.filter_eq_nil_iff] at h0
        have := h0 j (List.mem_range.2 hj)
        simpa using this
      refine ⟨?_, full listed a w F L hall hS hT hQ⟩
      cases hr : Region.ready .any ops listed with
      | nil => rfl
      | cons x xs =>
        have hx : x ∈ Region.ready .any ops listed := by rw [hr]; simp
        rw [mem_ready] at hx
        obtain ⟨h1, _⟩ := hx
        obtain ⟨h2, h3⟩ := listed_false h1
        rw [hall x (by omega)] at h3
        simp at h3
    | succ fuel ih =>
      intro listed a w F L hsz hcnt hdown hS hT hb hQ
      refine ⟨fun hr => full listed a w F L (noReady listed hsz hr) hS hT hQ, fun j hj => ?_⟩
      rw [mem_ready] at hj
      obtain ⟨hj0, o, ho, hedges⟩ := hj
      obtain ⟨hjlt, hjf⟩ := listed_false hj0
      have hjn : j < ops.size := by omega
      obtain ⟨r, hr, hA⟩ := hAt j o ho
      have hTj := hTget j o r ho hr
      have hbj := hbefs j o (fun j => listed.getD j false) ho hdown hedges
      have hother : ∀ (i : Nat) (t : It), T[i]? = some t → listed.getD i false ≠ decide (i < j) → ∃ o' r', ops[i]? = some o' ∧ rs[i]? = some r' ∧ t = .of o' r' ∧
          (Apart ops o' o r' r ∨ (listed.getD i false = true ∧ Apart ops o o' r r')) := by
        intro i t ht hne
        obtain ⟨o', r', ho', hr', rfl⟩ := hTback i t ht
        refine ⟨o', r', ho', hr', rfl, ?_⟩
        have hin : i < ops.size := (Array.getElem?_eq_some_iff.1 ho').1
        by_cases hij : i < j
        · have hdi : listed.getD i false = false := by
            cases hd : listed.getD i false with
            | false => rfl
            | true => rw [hd] at hne; simp [hij] at hne
          rcases hpair i j o' o r' r hij ho' ho hr' hr with hbf | hap
          · have := hbj i hbf
            rw [hdi] at this; simp at this
          · exact .inl hap
        · have hdi : listed.getD i false = true := by
            cases hd : listed.getD i false with
            | true => rfl
            | false => rw [hd] at hne; simp [hij] at hne
          have hji : j < i := by
            rcases Nat.lt_or_ge j i with h1 | h1
            · exact h1
            · have : i = j := by omega
              subst this; rw [hdi] at hjf; simp at hjf
          rcases hpair j i o o' r r' hji ho ho' hr hr' with hbf | hap
          · have := hdown i hin hdi j hbf
            rw [hjf] at this; simp at this
          · exact .inr ⟨hdi, hap⟩
      have hlooks : ∀ t ∈ looks ops o, (tmE s.tm T (fun j => listed.getD j false) 0)[t]? = (tmE s.tm T (fun x => decide (x < j)) 0)[t]? := by
        intro t ht
        refine tmE_same T _ _ _ _ 0 t rfl rfl fun i x hx hne => ?_
        rw [Nat.zero_add] at hne
        obtain ⟨o', r', _, _, rfl, hap⟩ := hother i x hx hne
        rw [of_dst]
        rcases hap with hap | ⟨_, hap⟩
        · exact fun e => hap.d1 t e ht
        · exact fun e => hap.d2 t e ht
      have hviews : ∀ x ∈ rdR r, gE (getO s.st) T (fun j => listed.getD j false) 0 x = gE (getO s.st) T (fun x => decide (x < j)) 0 x := by
        intro x hx
        refine gE_same T _ _ _ _ 0 x rfl fun i t ht hne => ?_
        rw [Nat.zero_add] at hne
        obtain ⟨o', r', _, _, rfl, hap⟩ := hother i t ht hne
        rw [of_up]
        rcases hap with hap | ⟨_, hap⟩
        · exact fun e => hap.u1 x e hx
        · exact hap.u3 x hx
      have hlater : ∀ (i : Nat) (t : It), T[i]? = some t → j < i → listed.getD i false = true → ∃ o' r', ops[i]? = some o' ∧ rs[i]? = some r' ∧ t = .of o' r' ∧ Apart ops o o' r r' := by
        intro i t ht hji hdi
        obtain ⟨o', r', ho', hr', rfl⟩ := hTback i t ht
        refine ⟨o', r', ho', hr', rfl, ?_⟩
        rcases hpair j i o o' r r' hji ho ho' hr hr' with hbf | hap
        · have := hdown i (Array.getElem?_eq_some_iff.1 ho').1 hdi j hbf
          rw [hjf] at this; simp at this
        · exact hap
      have hD' : (fun i => (listed.setIfInBounds j true).getD i false) = withD (fun i => listed.getD i false) (0 + j) := by
        funext i
        rw [Nat.zero_add]
        by_cases e : j = i
        · subst e
          simp [withD, hjlt]
        · rw [getD_set_ne false e]
          have : (i == j) = false := by simp; omega
          simp [withD, this]
      have hgadd := gE_add T (getO s.st) (fun i => listed.getD i false) 0 j _ hTj (by rw [Nat.zero_add]; exact hjf) (fun i t ht hji hd x hx => by
        rw [Nat.zero_add] at hd
        obtain ⟨o', r', _, _, rfl, hap⟩ := hlater i t ht hji hd
        rw [of_up] at hx ⊢
        exact hap.u2 x hx)
      have htadd := tmE_add T s.tm (fun i => listed.getD i false) 0 j _ hTj (by rw [Nat.zero_add]; exact hjf) (fun i t ht hji hd x hx => by
        rw [Nat.zero_add] at hd
        obtain ⟨o', r', _, _, rfl, hap⟩ := hlater i t ht hji hd
        rw [of_dst] at hx ⊢
        exact hap.d3 x hx)
      have hcnt' : ((List.range ops.size).filter (fun i => !(listed.setIfInBounds j true).getD i false)).length ≤ fuel := by
        have : ((List.range ops.size).filter (fun i => !(listed.setIfInBounds j true).getD i false)).length < ((List.range ops.size).filter (fun i => !listed.getD i false)).length := by
          refine cnt_lt _ (fun i hi hp => ?_) ⟨j, List.mem_range.2 hjn, by simp only [hjf]; rfl, ?_⟩
          · by_cases e : j = i
            · subst e; simp [hjlt] at hp
            · rw [getD_set_ne false e] at hp; exact hp
          · have := congrFun hD' j
            rw [this]
            simp [withD]
        omega
      have hdown' : ∀ i, i < ops.size → (listed.setIfInBounds j true).getD i false = true → ∀ x, ahead ops x i = true → (listed.setIfInBounds j true).getD x false = true := by
        intro i hi hd x hx
        by_cases e : j = i
        · subst e
          exact getD_set_true (hbj x hx)
        · rw [getD_set_ne false e] at hd
          exact getD_set_true (hdown i hi hd x hx)
      unfold wpOp
      rw [ho]
      simp only
      cases r with
      | none =>
        obtain ⟨hw, _⟩ := hA
        rw [← wantedU_agree hlooks] at hw
        rw [wanted_ok hw hT]
        simp only [Bool.false_eq_true, if_false]
        refine ih _ _ w F L (by simp [hsz]) hcnt' hdown' ?_ ?_ hb (fun a' w' F' L' hE hS hT hd => hQ a' w' F' L' hE hS hT (by rw [hd, put_defers]))
        · rw [hD', hgadd]; exact hS
        · rw [hD', htadd]; exact hT.put o.dst .undef
      | some r =>
        obtain ⟨hw, ⟨k', hk', hrun⟩, hnxt⟩ := hA
        rw [← wantedU_agree hlooks] at hw
        rw [wanted_ok hw hT]
        simp only [if_true]
        left
        have hrun' := oper_local hrun hlooks hviews
        have hf := hfresh (fun j => listed.getD j false) hdown
        have hidn : gE (getO s.st) T (fun j => listed.getD j false) 0 (s.nx + 8 * j) = none := by
          cases e : gE (getO s.st) T (fun j => listed.getD j false) 0 (s.nx + 8 * j) with
          | none => rfl
          | some ob =>
            rcases hf (s.nx + 8 * j) (by rw [e]; simp) with h1 | ⟨i, h1, h2, h3⟩
            · exact absurd (hnx _ (by omega)) h1
            · rcases h3 with h3 | ⟨r', _, _, h4, _⟩
              · have : i = j := by omega
                subst this
                rw [hjf] at h1; simp at h1
              · have := hbase i (by omega); omega
        have hcl : r.cl = true → ∀ x, nxs j ≤ x → gE (getO s.st) T (fun j => listed.getD j false) 0 x = none := by
          intro hc x hx
          have hbs := hbase j (by omega)
          cases e : gE (getO s.st) T (fun j => listed.getD j false) 0 x with
          | none => rfl
          | some ob =>
            rcases hf x (by rw [e]; simp) with h1 | ⟨i, h1, h2, h3⟩
            · exact absurd (hnx _ (by omega)) h1
            · rcases h3 with h3 | ⟨r', hr', h4, h5, h6⟩
              · omega
              · by_cases hij : i < j
                · have := hmono j (by omega) (i + 1) (by omega); omega
                · by_cases e2 : i = j
                  · subst e2; rw [hjf] at h1; simp at h1
                  · obtain ⟨o', r2, ho', hr2, _, hap⟩ := hlater i _ (hTget i ops[i] r' (Array.getElem?_eq_getElem h2) hr') (by omega) h1
                    rw [hr'] at hr2
                    obtain rfl := Option.some.inj hr2
                    exact absurd ⟨hc, h4⟩ hap.c
        refine oper_ok hN (fun i hi => hk i (by omega)) hrun' hS hT hidn hcl hb fun v w' F' L' hE hS' hR => ?_
        refine ih _ _ w' F' L' (by simp [hsz]) hcnt' hdown' ?_ ?_ (Nat.le_trans hb hE.size) (fun a' w2 F2 L2 hE2 hS2 hT2 hd => hQ a' w2 F2 L2 (hE.trans hE2) hS2 hT2 (by rw [hd, put_defers]))
        · rw [hD', hgadd]; exact hS'
        · rw [hD', htadd]; exact (hT.mono hE.memLe hE.layLe).put o.dst hR
  refine wp_region_any hm (main ops.size _ a _ F L (by simp) ?_ ?_ ?_ ?_ hb ?_)
  · exact Nat.le_trans (List.length_filter_le _ _) (by simp)
  · intro j hj hd; simp [hj] at hd
  · rw [gE_congr T _ _ (fun _ => false) 0 (fun j hj => by simp [Array.getElem?_replicate]; split <;> rfl), gE_none _ _ _ _ (fun _ _ => rfl)]
    exact ⟨hS.mem, hS.non, hS.obj, hS.inj⟩
  · rw [tmE_congr T _ _ (fun _ => false) 0 (fun j hj => by simp [Array.getElem?_replicate]; split <;> rfl), tmE_none _ _ _ _ (fun _ _ => rfl)]
    exact hT
  · intro a' w' F' L' hE hS2 hT2 hd
    exact hQ a' w' F' L' ⟨hE.size, hE.os, hE.tape, hE.output, hE.memLe, hE.layLe, hE.frame, hE.newMem, hE.newObj⟩ hS2 hT2 hd
end
end Go.Proofs.Ytjofhegodknmaaa.V
