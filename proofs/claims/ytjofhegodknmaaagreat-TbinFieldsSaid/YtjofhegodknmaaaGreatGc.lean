/- V, 16: regions in any order come to what the order of the text comes to. To: V, 28: regions operation by operation, in an order that is drawn too; elements of rows, read and written; calls. -/
import Derived.Test.YtjofhegodknmaaaGreatGb
import Derived.Below
import Derived.Lib.Bytealg
set_option linter.unusedSimpArgs false
set_option linter.unusedVariables false
namespace Go.Proofs.YtjofhegodknmaaaGreat.V
open Go
variable [Sig]
def upR : Option CallRes → List Nat
  | some r => r.res.up.map (·.1)
  | none => []
def rdR : Option CallRes → List Nat
  | some r => r.res.rd
  | none => []
def clR : Option CallRes → Bool
  | some r => r.cl
  | none => false
theorem of_dst (o : Oper) (r : Option CallRes) : (It.of o r).dst = o.dst := by have _s : Sig := inferInstance; cases r <;> rfl
theorem of_up (o : Oper) (r : Option CallRes) : (It.of o r).up.map (·.1) = upR r := by have _s : Sig := inferInstance; cases r <;> rfl
structure Apart (ops : Array Oper) (x y : Oper) (a b : Option CallRes) : Prop where
  d1 : ∀ t, x.dst = some t → t ∉ looks ops y
  d2 : ∀ t, y.dst = some t → t ∉ looks ops x
  d3 : ∀ t, x.dst = some t → y.dst ≠ some t
  u1 : ∀ z ∈ upR a, z ∉ rdR b
  u2 : ∀ z ∈ upR a, z ∉ upR b
  u3 : ∀ z ∈ rdR a, z ∉ upR b
  c : ¬ (clR a = true ∧ clR b = true)
theorem disj_spec {a b : List Nat} (h : disj a b = true) : ∀ x ∈ a, x ∉ b := by
  have _s : Sig := inferInstance
  intro x hx
  unfold disj at h
  rw [List.all_eq_true] at h
  have := h x hx
  simpa using this
theorem acts_get : ∀ (rs : List (Option CallRes)) (k i : Nat) (r : CallRes), rs[i]? = some (some r) → quiet (some r) = false → (k + i, r) ∈ acts rs k := by
  have _s : Sig := inferInstance
  intro rs
  induction rs with
  | nil => intro k i r h; simp at h
  | cons a rs ih =>
    intro k i r h hq
    cases i with
    | zero => simp at h; subst h; simp [acts, hq]
    | succ i =>
      simp at h
      have := ih (k + 1) i r h hq
      rw [show k + (i + 1) = k + 1 + i by omega]
      cases a with
      | none => exact this
      | some a => simp only [acts]; split <;> simp [this]
theorem dup_spec {d : Nat} : ∀ (l : List Oper) (seen dup : Nat), dup.testBit d = true ∨ (seen.testBit d = true ∧ ∃ (i : Nat) (o : Oper), l[i]? = some o ∧ o.dst = some d) ∨
    (∃ (i j : Nat) (x y : Oper), i < j ∧ l[i]? = some x ∧ l[j]? = some y ∧ x.dst = some d ∧ y.dst = some d) → (dupOf seen dup l).testBit d = true := by
  have _s : Sig := inferInstance
  intro l
  induction l with
  | nil =>
    intro seen dup h
    rcases h with h | ⟨_, i, o, h, _⟩ | ⟨i, j, x, y, _, h, _⟩
    · exact h
    · simp at h
    · simp at h
  | cons a l ih =>
    intro seen dup h
    simp only [dupOf, forceN_eq]
    cases hd : a.dst with
    | none =>
      simp only
      refine ih seen dup ?_
      rcases h with h | ⟨h, i, o, h1, h2⟩ | ⟨i, j, x, y, h0, h1, h2, h3, h4⟩
      · exact .inl h
      · cases i with
        | zero => simp at h1; subst h1; rw [hd] at h2; simp at h2
        | succ i => exact .inr (.inl ⟨h, i, o, by simpa using h1, h2⟩)
      · cases j with
        | zero => omega
        | succ j =>
          cases i with
          | zero => simp at h1; subst h1; rw [hd] at h3; simp at h3
          | succ i => exact .inr (.inr ⟨i, j, x, y, by omega, by simpa using h1, by simpa using h2, h3, h4⟩)
    | some d' =>
      simp only
      have later : ∀ (j : Nat) (y : Oper), l[j]? = some y → y.dst = some d → (seen.testBit d = true ∨ d' = d) → (if seen.testBit d' = true then dupOf seen (dup ||| 2 ^ d') l else dupOf (seen ||| 2 ^ d') dup l).testBit d = true := by
        intro j y hj hy hsd
        split
        · rename_i hsd'
          rcases hsd with hsd | rfl
          · exact ih _ _ (.inr (.inl ⟨hsd, j, y, hj, hy⟩))
          · exact ih _ _ (.inr (.inl ⟨hsd', j, y, hj, hy⟩))
        · refine ih _ _ (.inr (.inl ⟨?_, j, y, hj, hy⟩))
          simp only [Nat.testBit_or, Bool.or_eq_true, Nat.testBit_two_pow, decide_eq_true_eq]
          exact hsd
      rcases h with h | ⟨h, i, o, h1, h2⟩ | ⟨i, j, x, y, h0, h1, h2, h3, h4⟩
      · split
        · exact ih _ _ (.inl (by simp [h]))
        · exact ih _ _ (.inl h)
      · cases i with
        | zero =>
          simp at h1
          subst h1
          rw [hd] at h2
          obtain rfl := Option.some.inj h2
          rw [if_pos h]
          exact ih _ _ (.inl (by simp [Nat.testBit_two_pow]))
        | succ i => exact later i o (by simpa using h1) h2 (.inl h)
      · cases j with
        | zero => omega
        | succ j =>
          cases i with
          | zero =>
            simp at h1
            subst h1
            rw [hd] at h3
            exact later j y (by simpa using h2) h4 (.inr (Option.some.inj h3))
          | succ i =>
            have hgo : ∀ seen dup, (dupOf seen dup l).testBit d = true := fun seen dup => ih _ _ (.inr (.inr ⟨i, j, x, y, by omega, by simpa using h1, by simpa using h2, h3, h4⟩))
            split
            · exact hgo _ _
            · exact hgo _ _
theorem guards_spec {ops : Array Oper} (h : guardsOk ops = true) {j g i : Nat} {y z x : Oper} {b : Bool} {d : Nat} (hy : ops[j]? = some y) (hg : y.guard = some (g, b)) (hz : ops[g]? = some z) (hd : z.dst = some d)
    (hx : ops[i]? = some x) (hne : i ≠ g) : x.dst ≠ some d := by
  intro hxd
  have hdup : (dupOf 0 0 ops.toList).testBit d = true := by
    refine dup_spec ops.toList 0 0 (.inr (.inr ?_))
    rcases Nat.lt_or_ge i g with hlt | hge
    · exact ⟨i, g, x, z, hlt, by simpa using hx, by simpa using hz, hxd, hd⟩
    · exact ⟨g, i, z, x, by omega, by simpa using hz, by simpa using hx, hd, hxd⟩
  unfold guardsOk at h
  simp only [forceN_eq, Bool.or_eq_true, beq_iff_eq, List.all_eq_true] at h
  rcases h with h | h
  · rw [h] at hdup; simp at hdup
  · have h1 := h y (by simpa using Array.mem_of_getElem? hy)
    rw [hg] at h1
    simp only [hz, Option.bind_some, hd] at h1
    rw [hdup] at h1
    simp at h1
theorem regionOk_spec {ops : Array Oper} {rs : List (Option CallRes)} (hs : SlotsP ops) (h : regionOk ops rs = true) :
    (∀ (j : Nat) y, ops[j]? = some y → ∀ e ∈ y.after, Region.binds .any e = true → e.on < j) ∧
    ∀ (i j : Nat) x y a b, i < j → ops[i]? = some x → ops[j]? = some y → rs[i]? = some a → rs[j]? = some b → ahead ops i j = true ∨ Apart ops x y a b := by
  refine ⟨hs.edges, ?_⟩
  unfold regionOk at h
  simp only [forceL_eq, Bool.and_eq_true] at h
  obtain ⟨hgu, hac⟩ := h
  intro i j x y a b hij hx hy ha hb
  by_cases hah : ahead ops i j = true
  · exact .inl hah
  · rcases hs.slots i j x y hij hx hy with h2 | ⟨h2, h3⟩
    · exact .inl h2
    · have hlk : ∀ (o : Oper) (t : Nat), t ∈ looks ops o → t ∈ opnds o ∨ ∃ g b' z, o.guard = some (g, b') ∧ ops[g]? = some z ∧ z.dst = some t := by
        intro o t ht
        unfold looks at ht
        rcases List.mem_append.1 ht with ht | ht
        · exact .inl ht
        · right
          cases hg : o.guard with
          | none => rw [hg] at ht; simp at ht
          | some p =>
            obtain ⟨g, b'⟩ := p
            rw [hg] at ht
            simp only [Option.mem_toList] at ht
            obtain ⟨z, hz, hzd⟩ := Option.bind_eq_some_iff.1 ht
            exact ⟨g, b', z, rfl, hz, hzd⟩
      have k1 : ∀ t, x.dst = some t → t ∉ looks ops y := by
        intro t ht hm
        rcases hlk y t hm with hm | ⟨g, b', z, hg, hz, hzd⟩
        · exact (h2 t ht).1 hm
        · by_cases hig : i = g
          · subst hig; exact hah (hs.guard j y _ b' hy hg)
          · exact guards_spec hgu hy hg hz hzd hx hig ht
      have k2 : ∀ t, y.dst = some t → t ∉ looks ops x := by
        intro t ht hm
        rcases hlk x t hm with hm | ⟨g, b', z, hg, hz, hzd⟩
        · exact h3 t ht hm
        · by_cases hjg : j = g
          · subst hjg
            obtain ⟨e, he, hbi, hlt, _⟩ := ahead_spec hx (hs.guard i x _ b' hx hg)
            have hgi : ahead ops j i = true := hs.guard i x _ b' hx hg
            have small : ∀ (n i j : Nat), j ≤ n → ahead ops i j = true → (∃ o, ops[j]? = some o) → i < j := by
              intro n
              induction n with
              | zero =>
                intro i j hj h ⟨o, ho⟩
                obtain ⟨e, _, _, h5, _⟩ := ahead_spec ho h
                omega
              | succ n ih =>
                intro i j hj h ⟨o, ho⟩
                obtain ⟨e, h4, h5, h6, h7⟩ := ahead_spec ho h
                rcases h7 with h7 | h7
                · omega
                · have hle : e.on < ops.size := by have := (Array.getElem?_eq_some_iff.1 ho).1; omega
                  have := ih i e.on (by omega) h7 ⟨ops[e.on], Array.getElem?_eq_getElem hle⟩
                  omega
            have := small i j i (Nat.le_refl _) hgi ⟨x, hx⟩
            omega
          · exact guards_spec hgu hx hg hz hzd hy hjg ht
      have k3 : ∀ t, x.dst = some t → y.dst ≠ some t := fun t ht => (h2 t ht).2
      have none1 : upR a = [] → rdR a = [] → clR a = false → Apart ops x y a b := fun e1 e2 e3 =>
        ⟨k1, k2, k3, fun z hz => by rw [e1] at hz; simp at hz, fun z hz => by rw [e1] at hz; simp at hz, fun z hz => by rw [e2] at hz; simp at hz, fun hc => by rw [e3] at hc; simp at hc⟩
      have none2 : upR b = [] → rdR b = [] → clR b = false → Apart ops x y a b := fun e1 e2 e3 =>
        ⟨k1, k2, k3, fun z hz => by rw [e2]; simp, fun z hz => by rw [e1]; simp, fun z hz => by rw [e1]; simp, fun hc => by rw [e3] at hc; simp at hc⟩
      cases a with
      | none => exact .inr (none1 rfl rfl rfl)
      | some a =>
        cases b with
        | none => exact .inr (none2 rfl rfl rfl)
        | some b =>
          by_cases qa : quiet (some a) = true
          · simp only [quiet, Bool.and_eq_true, List.isEmpty_iff, Bool.not_eq_true'] at qa
            exact .inr (none1 (by simp [upR, qa.1.1]) qa.1.2 qa.2)
          · by_cases qb : quiet (some b) = true
            · simp only [quiet, Bool.and_eq_true, List.isEmpty_iff, Bool.not_eq_true'] at qb
              exact .inr (none2 (by simp [upR, qb.1.1]) qb.1.2 qb.2)
            · have ma := acts_get rs 0 i a ha (by simpa using qa)
              have mb := acts_get rs 0 j b hb (by simpa using qb)
              rw [Nat.zero_add] at ma mb
              unfold actsOk at hac
              simp only [Bool.or_eq_true, List.all_eq_true] at hac
              rcases hac with hac | hac
              · have ha' := hac _ ma
                have hb' := hac _ mb
                simp only [Bool.and_eq_true, List.isEmpty_iff, Bool.not_eq_true'] at ha' hb'
                right
                exact ⟨k1, k2, k3, fun z hz => by simp [upR, ha'.1] at hz, fun z hz => by simp [upR, ha'.1] at hz, fun z hz => by simp [upR, hb'.1], fun hc => by simp [clR, ha'.2] at hc⟩
              · rcases hac _ mb _ ma with (h5 | h5) | h5
                · simp [hij] at h5
                · unfold memApart at h5
                  simp only [Bool.and_eq_true] at h5
                  obtain ⟨⟨⟨g1, g2⟩, g3⟩, g4⟩ := h5
                  right
                  refine ⟨k1, k2, k3, disj_spec g1, disj_spec g2, disj_spec g3, fun hc => ?_⟩
                  simp only [clR] at hc
                  simp [hc.1, hc.2] at g4
                · exact .inl h5
theorem cnt_lt {α : Type} {p p' : α → Bool} : ∀ (l : List α), (∀ x ∈ l, p' x = true → p x = true) → (∃ x ∈ l, p x = true ∧ p' x = false) → (l.filter p').length < (l.filter p).length := by
  have _s : Sig := inferInstance
  have le : ∀ (l : List α), (∀ x ∈ l, p' x = true → p x = true) → (l.filter p').length ≤ (l.filter p).length := by
    intro l
    induction l with
    | nil => intro _; exact Nat.le_refl _
    | cons a l ih =>
      intro h
      have := ih fun x hx => h x (by simp [hx])
      by_cases h1 : p' a = true
      · simp [List.filter_cons, h1, h a (by simp) h1, this]
      · by_cases h2 : p a = true
        · simp [List.filter_cons, h1, h2]; omega
        · simp [List.filter_cons, h1, h2, this]
  intro l
  induction l with
  | nil => intro _ h; obtain ⟨x, hx, _⟩ := h; simp at hx
  | cons a l ih =>
    intro h hx
    have hle := le l fun x hx => h x (by simp [hx])
    by_cases h1 : p a = true ∧ p' a = false
    · simp [List.filter_cons, h1.1, h1.2]; omega
    · have hl : ∃ x ∈ l, p x = true ∧ p' x = false := by
        obtain ⟨x, hx, hp⟩ := hx
        rcases List.mem_cons.1 hx with rfl | hx
        · exact absurd hp h1
        · exact ⟨x, hx, hp⟩
      have := ih (fun x hx => h x (by simp [hx])) hl
      by_cases h2 : p' a = true
      · simp [List.filter_cons, h2, h a (by simp) h2, this]
      · have h3 : ¬ p a = true := fun e => h1 ⟨e, by simpa using h2⟩
        simp [List.filter_cons, h2, h3, this]
theorem listed_false {listed : Array Bool} {j : Nat} (h : listed.getD j true = false) : j < listed.size ∧ listed.getD j false = false := by
  have _s : Sig := inferInstance
  rcases Nat.lt_or_ge j listed.size with h' | h'
  · refine ⟨h', ?_⟩
    simp [Array.getD, h'] at h ⊢
    exact h
  · simp [Array.getD, Nat.not_lt.2 h'] at h
theorem listed_false' {listed : Array Bool} {j : Nat} (hj : j < listed.size) (h : listed.getD j false = false) : listed.getD j true = false := by
  have _s : Sig := inferInstance
  simp [Array.getD, hj] at h ⊢
  exact h
section
variable {P : Program} {an : An}
theorem region_any (hN : Good P an) (hm : P.follows .mixedOrders = true) {Q : Exit → Act → World → Prop} {k id : Nat} {ops : Array Oper} {s s' : St} {rs : List (Option CallRes)} {w : World} {F : Mem} {L : Lay} {b0 : Nat} {a : Act}
    (hreg : SlotsP ops) (hk : ∀ j, j < k → PcOk P an j) (h : opers P an k ops s.nx ops.toList 0 { s with nx := s.nx + 8 * ops.size } [] = some (s', rs)) (hok : regionOk ops rs = true)
    (hS : SR w F L b0 (getO s.st)) (hT : TR F L s.tm a.tmps) (hnx : ∀ x, s.nx ≤ x → getO s.st x = none) (hb : b0 ≤ w.heap.size)
    (hQ : ∀ a' w' F' L', Evo w F L w' F' L' → SR w' F' L' b0 (getO s'.st) → TR F' L' s'.tm a'.tmps → a'.defers = a.defers → Q .normal a' w') : (Code.region id ops true).wp P Q a w := by
  obtain ⟨rs2, e1, e2, e3, e4, nxs, e5, e6⟩ := opers_trace k ops.toList 0 _ s' [] rs h
  simp only [List.nil_append] at e1
  subst e1
  simp only at e3 e4 e5 e6
  simp only [Nat.zero_add] at e6
  generalize hTt : its ops.toList rs = T at e3 e4 e6
  obtain ⟨hlt, hpair⟩ := regionOk_spec hreg hok
  have hlen : rs.length = ops.size := by rw [e2]; simp
  have hTlen : T.length = ops.size := by
    rw [← hTt]
    have : ∀ (l : List Oper) (r : List (Option CallRes)), r.length = l.length → (its l r).length = l.length := by
      intro l
      induction l with
      | nil => intro r _; rfl
      | cons a l ih =>
        intro r hr
        cases r with
        | nil => simp at hr
        | cons b r => simp [its, ih r (by simpa using hr)]
    rw [this _ _ e2]; simp
  have hTget : ∀ (j : Nat) (o : Oper) (r : Option CallRes), ops[j]? = some o → rs[j]? = some r → T[j]? = some (.of o r) := fun j o r ho hr => by
    rw [← hTt]; exact its_get _ _ j o r (by simpa using ho) hr
  have hTback : ∀ (j : Nat) (t : It), T[j]? = some t → ∃ o r, ops[j]? = some o ∧ rs[j]? = some r ∧ t = .of o r := fun j t ht => by
    rw [← hTt] at ht
    obtain ⟨o, r, h1, h2, h3⟩ := its_back _ _ j t ht
    exact ⟨o, r, by simpa using h1, h2, h3⟩
  have hAt : ∀ (j : Nat) (o : Oper), ops[j]? = some o → ∃ r, rs[j]? = some r ∧ At P an k ops s.nx o j (tmE s.tm T (fun x => decide (x < j)) 0) (gE (getO s.st) T (fun x => decide (x < j)) 0) (nxs j) (nxs (j + 1)) r := fun j o ho => e6 j o (by simpa using ho)
  have hstep : ∀ j, j < ops.size → nxs j ≤ nxs (j + 1) := by
    intro j hj
    obtain ⟨r, _, hA⟩ := hAt j ops[j] (Array.getElem?_eq_getElem hj)
    cases r with
    | none => have := hA.2; omega
    | some r => obtain ⟨_, ⟨k', _, hr⟩, e⟩ := hA; have := ((gr_all P an k').2.2.1 _ _ _ _ _ _ hr).le; omega
  have hmono : ∀ j, j ≤ ops.size → ∀ i, i ≤ j → nxs i ≤ nxs j := by
    intro j
    induction j with
    | zero => intro _ i hi; have : i = 0 := by omega
              subst this; exact Nat.le_refl _
    | succ j ih =>
      intro hj i hi
      by_cases e : i = j + 1
      · rw [e]; exact Nat.le_refl _
      · exact Nat.le_trans (ih (by omega) i (by omega)) (hstep j (by omega))
  have hbase : ∀ j, j ≤ ops.size → s.nx + 8 * ops.size ≤ nxs j := fun j hj => by have := hmono j hj 0 (Nat.zero_le _); omega
  let news (i x : Nat) : Prop := x = s.nx + 8 * i ∨ (∃ r, rs[i]? = some r ∧ clR r = true ∧ nxs i ≤ x ∧ x < nxs (i + 1))
  have hnews : ∀ (j : Nat) (t : It) (x : Nat), T[j]? = some t → x ∈ t.up.map (·.1) → getO s.st x ≠ none ∨ ∃ i t', i ≤ j ∧ news i x ∧ T[i]? = some t' ∧ x ∈ t'.up.map (·.1) := by
    intro j
    induction j using Nat.strongRecOn with
    | _ j ih =>
      intro t x ht hx
      obtain ⟨o, r, ho, hr, rfl⟩ := hTback j t ht
      obtain ⟨r', hr', hA⟩ := hAt j o ho
      rw [hr] at hr'
      obtain rfl := Option.some.inj hr'
      cases r with
      | none => rw [of_up] at hx; simp [upR] at hx
      | some r =>
        obtain ⟨_, ⟨k', _, hrun⟩, e⟩ := hA
        have hu := (gr_all P an k').2.2.1 _ _ _ _ _ _ hrun
        have hx2 := hx
        rw [of_up] at hx2
        rcases hu.up x hx2 with h1 | ⟨h1, h2, h3⟩ | h1
        · exact .inr ⟨j, _, Nat.le_refl _, .inl h1, ht, hx⟩
        · exact .inr ⟨j, _, Nat.le_refl _, .inr ⟨some r, hr, h1, h2, by omega⟩, ht, hx⟩
        · rcases gE_from T _ _ 0 x h1 with h2 | ⟨i, t', h2, h3, h4⟩
          · exact .inl h2
          · simp at h3
            rcases ih i h3 t' x h2 h4 with h5 | ⟨i', t2, h5, h6, h7, h8⟩
            · exact .inl h5
            · exact .inr ⟨i', t2, by omega, h6, h7, h8⟩
  have hfresh : ∀ (D : Nat → Bool), (∀ j, j < ops.size → D j = true → ∀ i, ahead ops i j = true → D i = true) → ∀ x, gE (getO s.st) T D 0 x ≠ none → getO s.st x ≠ none ∨ ∃ i, D i = true ∧ i < ops.size ∧ news i x := by
    intro D hD x hx
    rcases gE_from T _ _ 0 x hx with h1 | ⟨j, t, h1, h2, h3⟩
    · exact .inl h1
    · rw [Nat.zero_add] at h2
      have hj : j < ops.size := by rw [← hTlen]; exact (List.getElem?_eq_some_iff.1 h1).1
      rcases hnews j t x h1 h3 with h4 | ⟨i, t', h4, h5, h6, h7⟩
      · exact .inl h4
      · by_cases e : i = j
        · subst e; exact .inr ⟨i, h2, hj, h5⟩
        · obtain ⟨o, r, ho, hr, rfl⟩ := hTback j t h1
          obtain ⟨o', r', ho', hr', rfl⟩ := hTback i t' h6
          rcases hpair i j o' o r' r (by omega) ho' ho hr' hr with hbf | hap
          · exact .inr ⟨i, hD j hj h2 i hbf, by omega, h5⟩
          · rw [of_up] at h3 h7
            exact absurd h3 (hap.u2 x h7)
  have hbefs : ∀ (j : Nat) (o : Oper) (D : Nat → Bool), ops[j]? = some o → (∀ i, i < ops.size → D i = true → ∀ x, ahead ops x i = true → D x = true) → (∀ e ∈ o.after, Region.binds .any e = true → D e.on = true) →
      ∀ i, ahead ops i j = true → D i = true := by
    intro j o D ho hD he i hi
    have hjs : j < ops.size := (Array.getElem?_eq_some_iff.1 ho).1
    obtain ⟨e, h1, h2, h3, h4⟩ := ahead_spec ho hi
    have h5 := he e h1 h2
    rcases h4 with rfl | h4
    · exact h5
    · exact hD e.on (by omega) h5 i h4
  have main : ∀ (fuel : Nat) (listed : Array Bool) (a : Act) (w : World) (F : Mem) (L : Lay), listed.size = ops.size → ((List.range ops.size).filter (fun j => !listed.getD j false)).length ≤ fuel →
      (∀ j, j < ops.size → listed.getD j false = true → ∀ i, ahead ops i j = true → listed.getD i false = true) →
      SR w F L b0 (gE (getO s.st) T (fun j => listed.getD j false) 0) → TR F L (tmE s.tm T (fun j => listed.getD j false) 0) a.tmps → b0 ≤ w.heap.size →
      (∀ a' w' F' L', Evo w F L w' F' L' → SR w' F' L' b0 (getO s'.st) → TR F' L' s'.tm a'.tmps → a'.defers = a.defers → Q .normal a' w') → wpAny P .any ops Q fuel listed a w := by
    intro fuel
    have full : ∀ (listed : Array Bool) (a : Act) (w : World) (F : Mem) (L : Lay), (∀ j, j < ops.size → listed.getD j false = true) →
        SR w F L b0 (gE (getO s.st) T (fun j => listed.getD j false) 0) → TR F L (tmE s.tm T (fun j => listed.getD j false) 0) a.tmps →
        (∀ a' w' F' L', Evo w F L w' F' L' → SR w' F' L' b0 (getO s'.st) → TR F' L' s'.tm a'.tmps → a'.defers = a.defers → Q .normal a' w') → Q .normal a w := by
      intro listed a w F L hall hS hT hQ
      rw [gE_congr T _ _ (fun _ => true) 0 (fun j hj => by rw [Nat.zero_add]; exact hall j (by omega))] at hS
      rw [tmE_congr T _ _ (fun _ => true) 0 (fun j hj => by rw [Nat.zero_add]; exact hall j (by omega))] at hT
      exact hQ a w F L (.refl _ _ _) (by rw [e3]; exact hS) (by rw [e4]; exact hT) rfl
    have noReady : ∀ (listed : Array Bool), listed.size = ops.size → Region.ready .any ops listed = [] → ∀ j, j < ops.size → listed.getD j false = true := by
      intro listed hsz hr j
      induction j using Nat.strongRecOn with
      | _ j ih =>
        intro hj
        cases hd : listed.getD j false with
        | true => rfl
        | false =>
          have : j ∈ Region.ready .any ops listed := by
            rw [mem_ready]
            refine ⟨listed_false' (by omega) hd, ops[j], Array.getElem?_eq_getElem hj, fun e he hbi => ?_⟩
            have := hlt j _ (Array.getElem?_eq_getElem hj) e he hbi
            exact ih e.on this (by omega)
          rw [hr] at this
          simp at this
    induction fuel with
    | zero =>
      intro listed a w F L hsz hcnt hdown hS hT hb hQ
      have hall : ∀ j, j < ops.size → listed.getD j false = true := by
        intro j hj
        have h0 : (List.range ops.size).filter (fun j => !listed.getD j false) = [] := List.length_eq_zero_iff.1 (by omega)
        rw [List.filter_eq_nil_iff] at h0
        have := h0 j (List.mem_range.2 hj)
        simpa using this
      refine ⟨?_, full listed a w F L hall hS hT hQ⟩
      cases hr : Region.ready .any ops listed with
      | nil => rfl
      | cons x xs =>
        have hx : x ∈ Region.ready .any ops listed := by rw [hr]; simp
        rw [mem_ready] at hx
        obtain ⟨h1, _⟩ := hx
        obtain ⟨h2, h3⟩ := listed_false h1
        rw [hall x (by omega)] at h3
        simp at h3
    | succ fuel ih =>
      intro listed a w F L hsz hcnt hdown hS hT hb hQ
      refine ⟨fun hr => full listed a w F L (noReady listed hsz hr) hS hT hQ, fun j hj => ?_⟩
      rw [mem_ready] at hj
      obtain ⟨hj0, o, ho, hedges⟩ := hj
      obtain ⟨hjlt, hjf⟩ := listed_false hj0
      have hjn : j < ops.size := by omega
      obtain ⟨r, hr, hA⟩ := hAt j o ho
      have hTj := hTget j o r ho hr
      have hbj := hbefs j o (fun j => listed.getD j false) ho hdown hedges
      have hother : ∀ (i : Nat) (t : It), T[i]? = some t → listed.getD i false ≠ decide (i < j) → ∃ o' r', ops[i]? = some o' ∧ rs[i]? = some r' ∧ t = .of o' r' ∧
          (Apart ops o' o r' r ∨ (listed.getD i false = true ∧ Apart ops o o' r r')) := by
        intro i t ht hne
        obtain ⟨o', r', ho', hr', rfl⟩ := hTback i t ht
        refine ⟨o', r', ho', hr', rfl, ?_⟩
        have hin : i < ops.size := (Array.getElem?_eq_some_iff.1 ho').1
        by_cases hij : i < j
        · have hdi : listed.getD i false = false := by
            cases hd : listed.getD i false with
            | false => rfl
            | true => rw [hd] at hne; simp [hij] at hne
          rcases hpair i j o' o r' r hij ho' ho hr' hr with hbf | hap
          · have := hbj i hbf
            rw [hdi] at this; simp at this
          · exact .inl hap
        · have hdi : listed.getD i false = true := by
            cases hd : listed.getD i false with
            | true => rfl
            | false => rw [hd] at hne; simp [hij] at hne
          have hji : j < i := by
            rcases Nat.lt_or_ge j i with h1 | h1
            · exact h1
            · have : i = j := by omega
              subst this; rw [hdi] at hjf; simp at hjf
          rcases hpair j i o o' r r' hji ho ho' hr hr' with hbf | hap
          · have := hdown i hin hdi j hbf
            rw [hjf] at this; simp at this
          · exact .inr ⟨hdi, hap⟩
      have hlooks : ∀ t ∈ looks ops o, (tmE s.tm T (fun j => listed.getD j false) 0)[t]? = (tmE s.tm T (fun x => decide (x < j)) 0)[t]? := by
        intro t ht
        refine tmE_same T _ _ _ _ 0 t rfl rfl fun i x hx hne => ?_
        rw [Nat.zero_add] at hne
        obtain ⟨o', r', _, _, rfl, hap⟩ := hother i x hx hne
        rw [of_dst]
        rcases hap with hap | ⟨_, hap⟩
        · exact fun e => hap.d1 t e ht
        · exact fun e => hap.d2 t e ht
      have hviews : ∀ x ∈ rdR r, gE (getO s.st) T (fun j => listed.getD j false) 0 x = gE (getO s.st) T (fun x => decide (x < j)) 0 x := by
        intro x hx
        refine gE_same T _ _ _ _ 0 x rfl fun i t ht hne => ?_
        rw [Nat.zero_add] at hne
        obtain ⟨o', r', _, _, rfl, hap⟩ := hother i t ht hne
        rw [of_up]
        rcases hap with hap | ⟨_, hap⟩
        · exact fun e => hap.u1 x e hx
        · exact hap.u3 x hx
      have hlater : ∀ (i : Nat) (t : It), T[i]? = some t → j < i → listed.getD i false = true → ∃ o' r', ops[i]? = some o' ∧ rs[i]? = some r' ∧ t = .of o' r' ∧ Apart ops o o' r r' := by
        intro i t ht hji hdi
        obtain ⟨o', r', ho', hr', rfl⟩ := hTback i t ht
        refine ⟨o', r', ho', hr', rfl, ?_⟩
        rcases hpair j i o o' r r' hji ho ho' hr hr' with hbf | hap
        · have := hdown i (Array.getElem?_eq_some_iff.1 ho').1 hdi j hbf
          rw [hjf] at this; simp at this
        · exact hap
      have hD' : (fun i => (listed.setIfInBounds j true).getD i false) = withD (fun i => listed.getD i false) (0 + j) := by
        funext i
        rw [Nat.zero_add]
        by_cases e : j = i
        · subst e
          simp [withD, hjlt]
        · rw [getD_set_ne false e]
          have : (i == j) = false := by simp; omega
          simp [withD, this]
      have hgadd := gE_add T (getO s.st) (fun i => listed.getD i false) 0 j _ hTj (by rw [Nat.zero_add]; exact hjf) (fun i t ht hji hd x hx => by
        rw [Nat.zero_add] at hd
        obtain ⟨o', r', _, _, rfl, hap⟩ := hlater i t ht hji hd
        rw [of_up] at hx ⊢
        exact hap.u2 x hx)
      have htadd := tmE_add T s.tm (fun i => listed.getD i false) 0 j _ hTj (by rw [Nat.zero_add]; exact hjf) (fun i t ht hji hd x hx => by
        rw [Nat.zero_add] at hd
        obtain ⟨o', r', _, _, rfl, hap⟩ := hlater i t ht hji hd
        rw [of_dst] at hx ⊢
        exact hap.d3 x hx)
      have hcnt' : ((List.range ops.size).filter (fun i => !(listed.setIfInBounds j true).getD i false)).length ≤ fuel := by
        have : ((List.range ops.size).filter (fun i => !(listed.setIfInBounds j true).getD i false)).length < ((List.range ops.size).filter (fun i => !listed.getD i false)).length := by
          refine cnt_lt _ (fun i hi hp => ?_) ⟨j, List.mem_range.2 hjn, by simp only [hjf]; rfl, ?_⟩
          · by_cases e : j = i
            · subst e; simp [hjlt] at hp
            · rw [getD_set_ne false e] at hp; exact hp
          · have := congrFun hD' j
            rw [this]
            simp [withD]
        omega
      have hdown' : ∀ i, i < ops.size → (listed.setIfInBounds j true).getD i false = true → ∀ x, ahead ops x i = true → (listed.setIfInBounds j true).getD x false = true := by
        intro i hi hd x hx
        by_cases e : j = i
        · subst e
          exact getD_set_true (hbj x hx)
        · rw [getD_set_ne false e] at hd
          exact getD_set_true (hdown i hi hd x hx)
      unfold wpOp
      rw [ho]
      simp only
      cases r with
      | none =>
        obtain ⟨hw, _⟩ := hA
        rw [← wantedU_agree hlooks] at hw
        rw [wanted_ok hw hT]
        simp only [Bool.false_eq_true, if_false]
        refine ih _ _ w F L (by simp [hsz]) hcnt' hdown' ?_ ?_ hb (fun a' w' F' L' hE hS hT hd => hQ a' w' F' L' hE hS hT (by rw [hd, put_defers]))
        · rw [hD', hgadd]; exact hS
        · rw [hD', htadd]; exact hT.put o.dst .undef
      | some r =>
        obtain ⟨hw, ⟨k', hk', hrun⟩, hnxt⟩ := hA
        rw [← wantedU_agree hlooks] at hw
        rw [wanted_ok hw hT]
        simp only [if_true]
        left
        have hrun' := oper_local hrun hlooks hviews
        have hf := hfresh (fun j => listed.getD j false) hdown
        have hidn : gE (getO s.st) T (fun j => listed.getD j false) 0 (s.nx + 8 * j) = none := by
          cases e : gE (getO s.st) T (fun j => listed.getD j false) 0 (s.nx + 8 * j) with
          | none => rfl
          | some ob =>
            rcases hf (s.nx + 8 * j) (by rw [e]; simp) with h1 | ⟨i, h1, h2, h3⟩
            · exact absurd (hnx _ (by omega)) h1
            · rcases h3 with h3 | ⟨r', _, _, h4, _⟩
              · have : i = j := by omega
                subst this
                rw [hjf] at h1; simp at h1
              · have := hbase i (by omega); omega
        have hcl : r.cl = true → ∀ x, nxs j ≤ x → gE (getO s.st) T (fun j => listed.getD j false) 0 x = none := by
          intro hc x hx
          have hbs := hbase j (by omega)
          cases e : gE (getO s.st) T (fun j => listed.getD j false) 0 x with
          | none => rfl
          | some ob =>
            rcases hf x (by rw [e]; simp) with h1 | ⟨i, h1, h2, h3⟩
            · exact absurd (hnx _ (by omega)) h1
            · rcases h3 with h3 | ⟨r', hr', h4, h5, h6⟩
              · omega
              · by_cases hij : i < j
                · have := hmono j (by omega) (i + 1) (by omega); omega
                · by_cases e2 : i = j
                  · subst e2; rw [hjf] at h1; simp at h1
                  · obtain ⟨o', r2, ho', hr2, _, hap⟩ := hlater i _ (hTget i ops[i] r' (Array.getElem?_eq_getElem h2) hr') (by omega) h1
                    rw [hr'] at hr2
                    obtain rfl := Option.some.inj hr2
                    exact absurd ⟨hc, h4⟩ hap.c
        refine oper_ok hN (fun i hi => hk i (by omega)) hrun' hS hT hidn hcl hb fun v w' F' L' hE hS' hR => ?_
        refine ih _ _ w' F' L' (by simp [hsz]) hcnt' hdown' ?_ ?_ (Nat.le_trans hb hE.size) (fun a' w2 F2 L2 hE2 hS2 hT2 hd => hQ a' w2 F2 L2 (hE.trans hE2) hS2 hT2 (by rw [hd, put_defers]))
        · rw [hD', hgadd]; exact hS'
        · rw [hD', htadd]; exact (hT.mono hE.memLe hE.layLe).put o.dst hR
  refine wp_region_any hm (main ops.size _ a _ F L (by simp) ?_ ?_ ?_ ?_ hb ?_)
  · exact Nat.le_trans (List.length_filter_le _ _) (by simp)
  · intro j hj hd; simp [hj] at hd
  · rw [gE_congr T _ _ (fun _ => false) 0 (fun j hj => by simp [Array.getElem?_replicate]; split <;> rfl), gE_none _ _ _ _ (fun _ _ => rfl)]
    exact ⟨hS.mem, hS.non, hS.obj, hS.inj⟩
  · rw [tmE_congr T _ _ (fun _ => false) 0 (fun j hj => by simp [Array.getElem?_replicate]; split <;> rfl), tmE_none _ _ _ _ (fun _ _ => rfl)]
    exact hT
  · intro a' w' F' L' hE hS2 hT2 hd
    exact hQ a' w' F' L' ⟨hE.size, hE.os, hE.tape, hE.output, hE.memLe, hE.layLe, hE.frame, hE.newMem, hE.newObj⟩ hS2 hT2 hd
end
end Go.Proofs.YtjofhegodknmaaaGreat.V
namespace Go.Proofs.YtjofhegodknmaaaGreat.V
open Go
variable [Sig]
def toE : X → Exit
  | .normal => .normal
  | .exit id => .exit id
  | .ret => .ret
def Post (w : World) (F : Mem) (L : Lay) (b0 : Nat) (x : X) (s : St) : Exit → Act → World → Prop := fun e a w' =>
  e = toE x ∧ a.defers = [] ∧ ∃ F' L', Evo w F L w' F' L' ∧ SR w' F' L' b0 (getO s.st) ∧ TR F' L' s.tm a.tmps
theorem Post.from {w w1 : World} {F F1 : Mem} {L L1 : Lay} {b0 : Nat} {x : X} {s : St} (hE : Evo w F L w1 F1 L1) {e : Exit} {a : Act} {w' : World} (h : Post w1 F1 L1 b0 x s e a w') : Post w F L b0 x s e a w' := by
  obtain ⟨h1, h2, F', L', h3, h4, h5⟩ := h
  exact ⟨h1, h2, F', L', hE.trans h3, h4, h5⟩
section
variable {P : Program} {an : An}
def ExOk (P : Program) (an : An) (k : Nat) : Prop :=
  ∀ c s x s' w F L b0 a, Regs c → exec P an k c s = some (x, s') → SR w F L b0 (getO s.st) → TR F L s.tm a.tmps → a.defers = [] → (∀ x, s.nx ≤ x → getO s.st x = none) → b0 ≤ w.heap.size →
    c.wp P (Post w F L b0 x s') a w
theorem exec_fresh {k : Nat} {c : Code} {s : St} {x : X} {s' : St} (h : exec P an k c s = some (x, s')) (hf : ∀ x, s.nx ≤ x → getO s.st x = none) : ∀ x, s'.nx ≤ x → getO s'.st x = none := by
  have _s : Sig := inferInstance
  intro y hy
  have hg := (gr_all P an k).2.2.2.2 _ _ _ _ h
  cases e : getO s'.st y with
  | none => rfl
  | some ob =>
    rcases hg.news y (by rw [e]; simp) with h1 | h1
    · exact absurd (hf y (Nat.le_trans hg.le hy)) h1
    · omega
def LpOk (P : Program) (an : An) (k : Nat) : Prop :=
  ∀ b s x s' w F L b0 a (Q : Exit → Act → World → Prop), Regs b → exec P an k (.loop b) s = some (x, s') → SR w F L b0 (getO s.st) → TR F L s.tm a.tmps → a.defers = [] → (∀ x, s.nx ≤ x → getO s.st x = none) → b0 ≤ w.heap.size →
    (∀ e a' w', Post w F L b0 x s' e a' w' → Q e a' w') → Code.rounds P b Q k a w
theorem exec_ok (hN : Good P an) (hm : P.follows .mixedOrders = true) (k : Nat) : (∀ j, j < k → PcOk P an j) → ExOk P an k ∧ LpOk P an k := by
  induction k with
  | zero =>
    intro _
    refine ⟨?_, ?_⟩
    · intro c s x s' w F L b0 a hg h; simp [exec] at h
    · intro b s x s' w F L b0 a Q hg h; simp [exec] at h
  | succ k ih =>
    intro hk
    obtain ⟨ih, ihl⟩ := ih fun j hj => hk j (by omega)
    have hl : LpOk P an (k + 1) := by
      intro b s x s' w F L b0 a Q hg h hS hT hd hf hb hQ
      simp only [exec, forceN_eq] at h
      rw [rounds_succ]
      cases he : exec P an k b s with
      | none => rw [he] at h; simp at h
      | some q =>
        obtain ⟨x1, s1⟩ := q
        have hf1 := exec_fresh he hf
        refine Code.wp_mono (fun e a' w' hp => ?_) (ih b s x1 s1 w F L b0 a hg he hS hT hd hf hb)
        rw [he] at h
        cases x1 with
        | normal =>
          simp only at h
          have hp' := hp
          obtain ⟨rfl, hd', F', L', hE, hS', hT'⟩ := hp'
          exact ihl b s1 x s' w' F' L' b0 a' Q hg h hS' hT' hd' hf1 (Nat.le_trans hb hE.size) fun e a2 w2 h2 => hQ e a2 w2 (h2.from hE)
        | exit id =>
          simp only [Option.some.injEq, Prod.mk.injEq] at h
          obtain ⟨rfl, rfl⟩ := h
          have := hQ e a' w' hp
          obtain ⟨rfl, _⟩ := hp
          exact this
        | ret =>
          simp only [Option.some.injEq, Prod.mk.injEq] at h
          obtain ⟨rfl, rfl⟩ := h
          have := hQ e a' w' hp
          obtain ⟨rfl, _⟩ := hp
          exact this
    refine ⟨?_, hl⟩
    intro c s x s' w F L b0 a hg h hS hT hd hf hb
    cases c
    case skip =>
      simp only [exec, Option.some.injEq, Prod.mk.injEq] at h
      obtain ⟨rfl, rfl⟩ := h
      exact wp_skip ⟨rfl, hd, F, L, .refl _ _ _, hS, hT⟩
    case exit id =>
      simp only [exec, Option.some.injEq, Prod.mk.injEq] at h
      obtain ⟨rfl, rfl⟩ := h
      exact wp_exit ⟨rfl, hd, F, L, .refl _ _ _, hS, hT⟩
    case ret =>
      simp only [exec, Option.some.injEq, Prod.mk.injEq] at h
      obtain ⟨rfl, rfl⟩ := h
      exact wp_ret ⟨rfl, hd, F, L, .refl _ _ _, hS, hT⟩
    case loop b => exact wp_loop_rounds (k + 1) (hl b s x s' w F L b0 a _ hg h hS hT hd hf hb fun _ _ _ h => h)
    case cond c t e =>
      simp only [exec, forceN_eq] at h
      split at h
      · rename_i v hv
        have hr := eval_rep hT hv
        have hc : a.eval c = .bool v := by
          generalize a.eval c = y at hr
          cases hr with
          | dat _ _ hr => cases hr; rfl
        cases v with
        | true => simp only [if_true] at h; exact wp_cond hc (by simp only [if_true]; exact ih t s x s' w F L b0 a hg.1 h hS hT hd hf hb)
        | false => simp only [Bool.false_eq_true, if_false] at h; exact wp_cond hc (by simp only [Bool.false_eq_true, if_false]; exact ih e s x s' w F L b0 a hg.2 h hS hT hd hf hb)
      · simp at h
    case seq p q =>
      simp only [exec, forceN_eq] at h
      cases he : exec P an k p s with
      | none => rw [he] at h; simp at h
      | some r =>
        obtain ⟨x1, s1⟩ := r
        have hf1 := exec_fresh he hf
        refine wp_seq (Code.wp_mono (fun e a' w' hp => ?_) (ih p s x1 s1 w F L b0 a hg.1 he hS hT hd hf hb))
        rw [he] at h
        cases x1 with
        | normal =>
          simp only at h
          obtain ⟨rfl, hd', F', L', hE, hS', hT'⟩ := hp
          exact Code.wp_mono (fun e a2 w2 h2 => h2.from hE) (ih q s1 x s' w' F' L' b0 a' hg.2 h hS' hT' hd' hf1 (Nat.le_trans hb hE.size))
        | exit id =>
          simp only [Option.some.injEq, Prod.mk.injEq] at h
          obtain ⟨rfl, rfl⟩ := h
          have h2 := hp
          obtain ⟨rfl, _⟩ := h2
          exact hp
        | ret =>
          simp only [Option.some.injEq, Prod.mk.injEq] at h
          obtain ⟨rfl, rfl⟩ := h
          have h2 := hp
          obtain ⟨rfl, _⟩ := h2
          exact hp
    case block id b =>
      simp only [exec, forceN_eq] at h
      cases he : exec P an k b s with
      | none => rw [he] at h; simp at h
      | some r =>
        obtain ⟨x1, s1⟩ := r
        refine wp_block (Code.wp_mono (fun e a' w' hp => ?_) (ih b s x1 s1 w F L b0 a hg he hS hT hd hf hb))
        rw [he] at h
        cases x1 with
        | normal =>
          simp only [Option.some.injEq, Prod.mk.injEq] at h
          obtain ⟨rfl, rfl⟩ := h
          have h2 := hp
          obtain ⟨rfl, _⟩ := h2
          exact hp
        | ret =>
          simp only [Option.some.injEq, Prod.mk.injEq] at h
          obtain ⟨rfl, rfl⟩ := h
          have h2 := hp
          obtain ⟨rfl, _⟩ := h2
          exact hp
        | exit j =>
          simp only at h
          obtain ⟨rfl, hd', r⟩ := hp
          by_cases e : j = id
          · rw [if_pos e] at h
            simp only [Option.some.injEq, Prod.mk.injEq] at h
            obtain ⟨rfl, rfl⟩ := h
            simp only [toE, Exit.inBlock, if_pos e]
            exact ⟨rfl, hd', r⟩
          · rw [if_neg e] at h
            simp only [Option.some.injEq, Prod.mk.injEq] at h
            obtain ⟨rfl, rfl⟩ := h
            simp only [toE, Exit.inBlock, if_neg e]
            exact ⟨rfl, hd', r⟩
    case region id ops draw =>
      simp only [exec, forceN_eq] at h
      split at h
      · rename_i s1 rs h1
        split at h
        · rename_i hc
          simp only [Option.some.injEq, Prod.mk.injEq] at h
          obtain ⟨rfl, rfl⟩ := h
          have hk' : ∀ j, j < k → PcOk P an j := fun j hj => hk j (by omega)
          cases draw with
          | true =>
            simp only [Bool.not_true, Bool.false_or] at hc
            exact region_any hN hm hg hk' h1 hc hS hT hf hb fun a' w' F' L' hE hS' hT' hd' => ⟨rfl, by rw [hd', hd], F', L', hE, hS', hT'⟩
          | false =>
            refine wp_region_list (opers_seq hN k ops.toList 0 _ s1 [] rs w F L a hk' h1 hS hT ?_ ?_ ?_ hb fun a' w' F' L' hE hS' hT' hd' => ⟨rfl, by rw [hd', hd], F', L', hE, hS', hT'⟩)
            · intro y hy; simp only at hy; exact hf y (by omega)
            · intro y h1 h2; exact hf y (by omega)
            · simp
        · simp at h
      · simp at h
    all_goals simp [exec] at h
theorem run_listMapM {α β : Type} {f : α → Sem β} {w : World} : ∀ {l : List α} {vs : List β}, vs.length = l.length → (∀ (i : Nat) x v, l[i]? = some x → vs[i]? = some v → (f x).run P w = .ok v w) → (l.mapM f).run P w = .ok vs w := by
  have _s : Sig := inferInstance
  intro l
  induction l with
  | nil => intro vs h _; have : vs = [] := List.length_eq_zero_iff.1 h
           subst this; simp
  | cons a l ih =>
    intro vs h hf
    cases vs with
    | nil => simp at h
    | cons v vs =>
      rw [List.mapM_cons]
      have h1 := hf 0 a v rfl rfl
      have h2 := ih (vs := vs) (by simpa using h) fun i x u hx hu => hf (i + 1) x u (by simpa using hx) (by simpa using hu)
      simp [h1, h2]
def resOf (tmps : Array Value) : ResultVar → Sem Value
  | .tmp t => pure (tmps.getD t Go.undef)
  | .cell a t => do loadVar t (← asAddr (tmps.getD a Go.undef))
theorem results_eq (fn : Func) (tmps : Array Value) : results fn tmps = (do
    let vs ← fn.results.mapM (resOf tmps)
    pure (if h : vs.size = 1 then vs[0] else .tuple vs)) := have _s : Sig := inferInstance; rfl
def resU (P : Program) (g : Nat → Option Obj) (tm : List U) : ResultVar → Option U
  | .tmp t => tm[t]?
  | .cell a t => (tm[a]?).bind fun u => (opLoad P g t u).map (·.u)
theorem results_ok {fn : Func} {tm : List U} {g : Nat → Option Obj} {w : World} {F : Mem} {L : Lay} {b0 : Nat} {tmps : Array Value} (hS : SR w F L b0 g) (hT : TR F L tm tmps) {us : List U}
    (h : fn.results.toList.mapM (resU P g tm) = some us) :
    ∃ vs, Args F L us vs ∧ (results fn tmps).run P w = .ok (if h : vs.toArray.size = 1 then vs.toArray[0] else .tuple vs.toArray) w := by
  obtain ⟨hl, hget⟩ := mapM_some h
  have hex : ∀ (i : Nat), ∃ v, ∀ x u, fn.results.toList[i]? = some x → us[i]? = some u → RepU F L u v ∧ (resOf tmps x).run P w = .ok v w := by
    intro i
    cases hx : fn.results.toList[i]? with
    | none => exact ⟨Go.undef, fun x u h => by simp at h⟩
    | some x =>
      obtain ⟨u, hu, hxu⟩ := hget i x hx
      cases x with
      | tmp t =>
        simp only [resU] at hxu
        obtain ⟨v, hv, hr⟩ := hT.2 t u hxu
        refine ⟨v, fun x u' h1 h2 => ?_⟩
        obtain rfl := Option.some.inj h1
        rw [hu] at h2
        obtain rfl := Option.some.inj h2
        exact ⟨hr, by simp [resOf, hv]⟩
      | cell a t =>
        simp only [resU] at hxu
        obtain ⟨p, hp, hpu⟩ := Option.bind_eq_some_iff.1 hxu
        obtain ⟨r, hr, rfl⟩ := Option.map_eq_some_iff.1 hpu
        obtain ⟨pv, hpv, hprep⟩ := hT.2 a p hp
        obtain ⟨_, ad, v, rfl, hrun, hrep⟩ := loadVar_ok hr hS hprep
        refine ⟨v, fun x u' h1 h2 => ?_⟩
        obtain rfl := Option.some.inj h1
        rw [hu] at h2
        obtain rfl := Option.some.inj h2
        exact ⟨hrep, by simp [resOf, hpv, asAddr, hrun]⟩
  obtain ⟨val, hval⟩ := Classical.axiomOfChoice hex
  refine ⟨(List.range us.length).map val, ⟨by simp, fun i u v hu hv => ?_⟩, ?_⟩
  · have hi : i < us.length := (List.getElem?_eq_some_iff.1 hu).1
    simp [hi] at hv
    subst hv
    have hi' : i < fn.results.toList.length := by omega
    exact (hval i _ u (List.getElem?_eq_getElem hi') hu).1
  · have hrun := run_listMapM (P := P) (w := w) (f := resOf tmps) (l := fn.results.toList) (vs := (List.range us.length).map val) (by simp [hl]) (fun i x v hx hv => by
        have hi : i < us.length := by rw [hl]; exact (List.getElem?_eq_some_iff.1 hx).1
        simp [hi] at hv
        subst hv
        exact (hval i x us[i] hx (List.getElem?_eq_getElem hi)).2)
    rw [results_eq, Array.mapM_eq_mapM_toList]
    simp only [Sem.run_bind, Sem.run_map]
    rw [hrun]
    rfl
theorem pcall_ok (hN : Good P an) (hR : RegsP P) (hm : P.follows .mixedOrders = true) : ∀ k, PcOk P an k := by
  intro k
  induction k using Nat.strongRecOn with
  | _ k ihk =>
    intro f us st nx u st' nx' w F L b0 vs h hS hA hf hb
    cases k with
    | zero => simp [pcall] at h
    | succ k =>
      simp only [pcall, forceL_eq] at h
      split at h
      · rename_i hq
        split at h
        · simp only [Option.some.injEq, Prod.mk.injEq] at h
          obtain ⟨rfl, rfl, rfl⟩ := h
          exact (hN.call _ _ _ _ _ _ _ hq).calls w F L b0 vs hS hA hf hb
        · simp at h
      split at h
      · simp at h
      · rename_i fn hfn
        split at h
        · simp at h
        · rename_i c hc
          split at h
          · rename_i x s hx
            split at h
            · rename_i hxn
              refine calls_of_wp hfn hc ?_
              have hT : TR F L (us ++ List.replicate (fn.ntmps - us.length) U.undef) (vs.toArray ++ Array.replicate (fn.ntmps - vs.toArray.size) Go.undef) := by
                have hl := hA.1
                refine ⟨by simp [hl], fun t u' hu => ?_⟩
                by_cases ht : t < us.length
                · rw [List.getElem?_append_left ht] at hu
                  have ht' : t < vs.length := by omega
                  exact ⟨vs[t], by simp [Array.getElem?_append, ht'], hA.2 t u' _ hu (List.getElem?_eq_getElem ht')⟩
                · rw [List.getElem?_append_right (by omega)] at hu
                  rw [List.getElem?_replicate] at hu
                  split at hu
                  · rename_i hlt
                    obtain rfl := Option.some.inj hu
                    have : ¬ t < vs.length := by omega
                    have hlt' : t - vs.length < fn.ntmps - vs.length := by omega
                    exact ⟨Go.undef, by simp [Array.getElem?_append, this, Array.getElem?_replicate, hlt'], .undef⟩
                  · simp at hu
              refine Code.wp_mono (fun e a' w' hp => ?_) ((exec_ok (an := an) hN hm k fun j hj => ihk j (by omega)).1 c _ x s w F L b0 _ (hR f fn c hfn hc) hx hS hT rfl hf hb)
              obtain ⟨rfl, hd, F', L', hE, hS', hT'⟩ := hp
              have fin : ∀ us', fn.results.toList.mapM (resU P (getO s.st) s.tm) = some us' → (∀ vs', Args F' L' us' vs' → RepU F' L' u (if h : vs'.toArray.size = 1 then vs'.toArray[0] else .tuple vs'.toArray)) → st' = s.st →
                    ∃ v, (results fn a'.tmps).run P w' = .ok v w' ∧ CallPost w F L b0 (getO st') u (.returned v) w' := by
                intro us' hus hrep hst
                obtain ⟨vs', hargs, hrun⟩ := results_ok hS' hT' hus
                exact ⟨_, hrun, _, F', L', rfl, hE, by rw [hst]; exact hS', hrep vs' hargs⟩
              have fin2 : ∃ v, (results fn a'.tmps).run P w' = .ok v w' ∧ CallPost w F L b0 (getO st') u (.returned v) w' := by
                split at h
                · rename_i u' hus
                  simp only [Option.some.injEq, Prod.mk.injEq] at h
                  obtain ⟨rfl, rfl, rfl⟩ := h
                  refine fin _ hus (fun vs' hargs => ?_) rfl
                  have hl := hargs.1
                  simp at hl
                  obtain ⟨v, rfl⟩ := List.length_eq_one_iff.1 hl
                  simp only [List.size_toArray, List.length_cons, List.length_nil, Nat.zero_add, dite_true]
                  exact hargs.2 0 u' v rfl rfl
                · rename_i l hne hus
                  simp only [Option.some.injEq, Prod.mk.injEq] at h
                  obtain ⟨rfl, rfl, rfl⟩ := h
                  refine fin _ hus (fun vs' hargs => ?_) rfl
                  have hl := hargs.1
                  have h1 : ¬ vs'.toArray.size = 1 := by
                    simp only [List.size_toArray]
                    intro e
                    rw [hl] at e
                    obtain ⟨u', rfl⟩ := List.length_eq_one_iff.1 e
                    exact hne u' rfl
                  rw [dif_neg h1]
                  exact .tup _ _ hl hargs.2
                · simp at h
              rcases hxn with rfl | rfl
              · exact ⟨hd, fin2⟩
              · exact ⟨hd, fin2⟩
            · simp at h
          · simp at h
end
end Go.Proofs.YtjofhegodknmaaaGreat.V
namespace Go.Proofs.YtjofhegodknmaaaGreat.V
open Go Go.RowKit
def yes : Option (U × Store × Nat) → Bool
  | some (.dat (.bool b), _, _) => b
  | _ => false
theorem beqI_eq : ∀ {a b : Int}, beqI a b = true → a = b
  | .ofNat a, .ofNat b, h => by rw [Nat.eq_of_beq_eq_true h]
  | .negSucc a, .negSucc b, h => by rw [Nat.eq_of_beq_eq_true h]
  | .ofNat a, .negSucc b, h => by simp [beqI] at h
  | .negSucc a, .ofNat b, h => by simp [beqI] at h
theorem beqB_eq : ∀ {a b : List UInt8}, beqB a b = true → a = b
  | [], [], _ => rfl
  | [], _ :: _, h => by simp [beqB] at h
  | _ :: _, [], h => by simp [beqB] at h
  | a :: r, b :: q, h => by
    simp only [beqB, Bool.and_eq_true] at h
    rw [UInt8.toNat_inj.1 (Nat.eq_of_beq_eq_true h.1), beqB_eq h.2]
theorem beqK_eq {a b : IntKind} (h : beqK a b = true) : a = b := by cases a <;> cases b <;> first | rfl | simp [beqK] at h
theorem beqO_eq {a b : Bool} (h : beqO a b = true) : a = b := by cases a <;> cases b <;> first | rfl | simp [beqO] at h
mutual
theorem beqD_eq : ∀ (a b : D), beqD a b = true → a = b
  | .int k a, .int j b, h => by simp only [beqD, Bool.and_eq_true] at h; rw [beqK_eq h.1, beqI_eq h.2]
  | .bool a, .bool b, h => by simp only [beqD] at h; rw [beqO_eq h]
  | .str a, .str b, h => by
    simp only [beqD] at h
    have h1 := beqB_eq h
    obtain ⟨⟨a⟩⟩ := a
    obtain ⟨⟨b⟩⟩ := b
    simp at h1
    rw [h1]
  | .nil, .nil, _ => rfl
  | .lst a, .lst b, h => by simp only [beqD] at h; rw [beqDs_eq a b h]
  | .agg a, .agg b, h => by simp only [beqD] at h; rw [beqDs_eq a b h]
  | .fp a, .fp b, h => by simp only [beqD] at h; rw [beqDs_eq a b h]
  | .fn f a, .fn g b, h => by simp only [beqD, Bool.and_eq_true] at h; rw [Nat.eq_of_beq_eq_true h.1, beqDs_eq a b h.2]
  | .nul a, .nul b, h => by simp only [beqD] at h; rw [Nat.eq_of_beq_eq_true h]
  | .sym a, .sym b, h => by simp only [beqD] at h; rw [Nat.eq_of_beq_eq_true h]
  | .int .., .bool _, h | .int .., .str _, h | .int .., .nil, h | .int .., .lst _, h | .int .., .agg _, h | .int .., .fp _, h | .int .., .fn .., h | .int .., .nul _, h => by simp [beqD] at h
  | .bool _, .int .., h | .bool _, .str _, h | .bool _, .nil, h | .bool _, .lst _, h | .bool _, .agg _, h | .bool _, .fp _, h | .bool _, .fn .., h | .bool _, .nul _, h => by simp [beqD] at h
  | .str _, .int .., h | .str _, .bool _, h | .str _, .nil, h | .str _, .lst _, h | .str _, .agg _, h | .str _, .fp _, h | .str _, .fn .., h | .str _, .nul _, h => by simp [beqD] at h
  | .nil, .int .., h | .nil, .bool _, h | .nil, .str _, h | .nil, .lst _, h | .nil, .agg _, h | .nil, .fp _, h | .nil, .fn .., h | .nil, .nul _, h => by simp [beqD] at h
  | .lst _, .int .., h | .lst _, .bool _, h | .lst _, .str _, h | .lst _, .nil, h | .lst _, .agg _, h | .lst _, .fp _, h | .lst _, .fn .., h | .lst _, .nul _, h => by simp [beqD] at h
  | .agg _, .int .., h | .agg _, .bool _, h | .agg _, .str _, h | .agg _, .nil, h | .agg _, .lst _, h | .agg _, .fp _, h | .agg _, .fn .., h | .agg _, .nul _, h => by simp [beqD] at h
  | .fp _, .int .., h | .fp _, .bool _, h | .fp _, .str _, h | .fp _, .nil, h | .fp _, .lst _, h | .fp _, .agg _, h | .fp _, .fn .., h | .fp _, .nul _, h => by simp [beqD] at h
  | .fn .., .int .., h | .fn .., .bool _, h | .fn .., .str _, h | .fn .., .nil, h | .fn .., .lst _, h | .fn .., .agg _, h | .fn .., .fp _, h | .fn .., .nul _, h => by simp [beqD] at h
  | .nul _, .int .., h | .nul _, .bool _, h | .nul _, .str _, h | .nul _, .nil, h | .nul _, .lst _, h | .nul _, .agg _, h | .nul _, .fp _, h | .nul _, .fn .., h => by simp [beqD] at h
  | .int .., .sym _, h | .bool _, .sym _, h | .str _, .sym _, h | .nil, .sym _, h | .lst _, .sym _, h | .agg _, .sym _, h | .fp _, .sym _, h | .fn .., .sym _, h | .nul _, .sym _, h => by simp [beqD] at h
  | .sym _, .int .., h | .sym _, .bool _, h | .sym _, .str _, h | .sym _, .nil, h | .sym _, .lst _, h | .sym _, .agg _, h | .sym _, .fp _, h | .sym _, .fn .., h | .sym _, .nul _, h => by simp [beqD] at h
theorem beqDs_eq : ∀ (a b : List D), beqDs a b = true → a = b
  | [], [], _ => rfl
  | [], _ :: _, h => by simp [beqDs] at h
  | _ :: _, [], h => by simp [beqDs] at h
  | a :: r, b :: q, h => by simp only [beqDs, Bool.and_eq_true] at h; rw [beqD_eq a b h.1, beqDs_eq r q h.2]
end
variable [Sig]
theorem Evo.below {w w' : World} {F F' : Mem} {L' : Lay} (h : Evo w F none0 w' F' L') : Below w.heap.size w w' :=
  have _s : Sig := inferInstance; ⟨h.os, h.tape, h.output, h.size, fun k hk => h.frame k hk (fun o i hi => by simp [none0] at hi)⟩
def memOf (W : World) : Mem := fun a => W.cell? a
def RowOk (P : Program) (f : Nat) (row : List (List D × List D)) : Prop := ∀ e ∈ row, Holds P f e.1 e.2
def TblOk (P : Program) (t : Tbl) : Prop := ∀ e ∈ t, RowOk P e.1 e.2
theorem RowOk.nil {P : Program} {f : Nat} : RowOk P f [] := fun _ h => by simp at h
theorem RowOk.cons {P : Program} {f : Nat} {ds rs : List D} {row : List (List D × List D)} (h : Holds P f ds rs) (h' : RowOk P f row) : RowOk P f ((ds, rs) :: row) := by
  intro e he
  rcases List.mem_cons.1 he with rfl | he
  · exact h
  · exact h' e he
theorem TblOk.nil {P : Program} : TblOk P [] := fun _ h => by simp at h
theorem TblOk.cons {P : Program} {f : Nat} {row : List (List D × List D)} {t : Tbl} (h : RowOk P f row) (h' : TblOk P t) : TblOk P ((f, row) :: t) := by
  intro e he
  rcases List.mem_cons.1 he with rfl | he
  · exact h
  · exact h' e he
theorem call_none {P : Program} {an : An} (h : an.call = fun _ _ _ _ => none) : CallOk P an := by
  intro f us st nx u st' nx' hh
  rw [h] at hh
  simp at hh
theorem holds_of_tells {P : Program} {an : An} (hN : Good P an) (hR : RegsP P) (hm : P.follows .mixedOrders = true) {k f : Nat} {ds rs : List D} (h : tells P an k f ds rs = true) : Holds P f ds rs := by
  unfold tells at h
  split at h
  · rename_i r hr
    obtain rfl := beqDs_eq r rs h
    simp only [pcs, forceDs_eq] at hr
    split at hr
    · rename_i l st nx hp
      split at hr
      · simp at hr
      rename_i hl1
      obtain ⟨ds', hds', rfl⟩ := Option.map_eq_some_iff.1 hr
      refine ⟨pcall_body hN.call hp, fun w F vs hF hA => ?_⟩
      have hS : SR w F none0 w.heap.size (getO []) := ⟨hF, fun _ _ => rfl, fun o ob h => by simp [getO] at h, fun o o' i i' h => by simp [none0] at h⟩
      refine Calls.mono (pcall_ok hN hR hm k f _ [] 0 _ st nx w F none0 w.heap.size vs hp hS hA (fun _ _ => rfl) (Nat.le_refl _)) fun e w' he => ?_
      obtain ⟨v, F', L', rfl, hE, hS', hr'⟩ := he
      have hs := hS'.snapped (ds'.flatMap (·.2))
      refine ⟨v, _, L', rfl, hE.trans hs.2, hs.1.mem, ?_⟩
      cases hr' with
      | tup _ vals hl hRR =>
        have hel : ∀ (i : Nat) u v, ((ds'.map (·.1)).map U.dat)[i]? = some u → vals[i]? = some v → RepU (FS F' w' L' (getO st) (ds'.flatMap (·.2))) none0 u v := by
          intro i u v hu hv
          rw [List.map_map, List.getElem?_map] at hu
          obtain ⟨d, hd, rfl⟩ := Option.map_eq_some_iff.1 hu
          obtain ⟨y, hy, hyd⟩ := mapM_back hds' hd
          exact .dat _ _ ((toD_rep hS' 40 y v d hyd (hRR i y v hy hv)).mono (FS_mono fun z hz => List.mem_flatMap.2 ⟨d, List.mem_of_getElem? hd, hz⟩))
        have hne : resD (ds'.map (·.1)) = .tup ((ds'.map (·.1)).map U.dat) := by
          have hl2 : (ds'.map (·.1)).length ≠ 1 := by rw [List.length_map, (mapM_some hds').1]; exact hl1
          unfold resD
          split
          · rename_i d e; rw [e] at hl2; simp at hl2
          · rfl
        rw [hne]
        exact .tup _ _ (by rw [List.length_map, List.length_map, (mapM_some hds').1]; exact hl) hel
    · rename_i u st nx hnt hp
      obtain ⟨d, hd, rfl⟩ := Option.map_eq_some_iff.1 hr
      refine ⟨pcall_body hN.call hp, fun w F vs hF hA => ?_⟩
      have hS : SR w F none0 w.heap.size (getO []) := ⟨hF, fun _ _ => rfl, fun o ob h => by simp [getO] at h, fun o o' i i' h => by simp [none0] at h⟩
      refine Calls.mono (pcall_ok hN hR hm k f _ [] 0 _ st nx w F none0 w.heap.size vs hp hS hA (fun _ _ => rfl) (Nat.le_refl _)) fun e w' he => ?_
      obtain ⟨v, F', L', rfl, hE, hS', hr'⟩ := he
      have hs := hS'.snapped d.2
      exact ⟨v, _, L', rfl, hE.trans hs.2, hs.1.mem, .dat _ _ (toD_rep hS' 40 u v d hd hr')⟩
    · simp at hr
  · simp at h
theorem args_nil {F : Mem} {L : Lay} : Args F L [] [] := ⟨rfl, fun i u v h => by simp at h⟩
theorem args_cons {F : Mem} {L : Lay} {d : D} {v : Value} {us : List U} {vs : List Value} (h : Rep F d v) (h' : Args F L us vs) : Args F L (.dat d :: us) (v :: vs) := by
  refine ⟨by simp [h'.1], fun i u x hu hx => ?_⟩
  cases i with
  | zero => simp at hu hx; subst hu; subst hx; exact .dat _ _ h
  | succ i => simp at hu hx; exact h'.2 i u x hu hx
def rowD (k : IntKind) (a : Option Addr) (len : Nat) (zs : List Int) : D := if a.isNone then .nil else .lst ((zs.take len).map (.int k))
theorem rep_row {W : World} {k : IntKind} {a : Option Addr} {len cap : Nat} {zs : List Int}
    (h : (a = none ∧ len = 0 ∧ cap = 0 ∧ zs = []) ∨ ∃ x, a = some x ∧ len ≤ cap ∧ cap ≤ maxLen ∧ zs.length = cap ∧ (∀ i, i < zs.length → W.cell? (x.add i) = some (.int k (zs.getD i 0))) ∧ ∀ n ∈ zs, (Lit.int k n).wf = true) :
    Rep (memOf W) (rowD k a len zs) (.slice a len cap) := by
  rcases h with ⟨rfl, rfl, rfl, rfl⟩ | ⟨x, rfl, h1, h2, h3, h4, _⟩
  · exact .nil
  · simp only [rowD, Option.isNone_some, Bool.false_eq_true, if_false]
    have hlen : ((zs.take len).map (D.int k)).length = len := by simp; omega
    have hget : ∀ (i : Nat) y, ((zs.take len).map (D.int k))[i]? = some y → i < zs.length ∧ y = .int k (zs.getD i 0) := by
      intro i y hy
      rw [List.getElem?_map] at hy
      obtain ⟨z, hz, rfl⟩ := Option.map_eq_some_iff.1 hy
      rw [List.getElem?_take] at hz
      split at hz
      · have hi := (List.getElem?_eq_some_iff.1 hz).1
        refine ⟨hi, ?_⟩
        simp [List.getD, hz]
      · simp at hz
    have key := Rep.lst (F := memOf W) ((zs.take len).map (D.int k)) x cap 1 (fun i _ => .int k (zs.getD i 0)) (by rw [hlen]; exact h1)
      (fun y hy => by obtain ⟨i, hi⟩ := List.getElem?_of_mem hy; obtain ⟨_, rfl⟩ := hget i y hi; rfl)
      (fun i y j z hy hz => by obtain ⟨_, rfl⟩ := hget i y hy; simp [D.cells] at hz; cases j with | zero => simp at hz; subst hz; rfl | succ j => simp at hz)
      (fun i y j z hy hz => by
        obtain ⟨hi, rfl⟩ := hget i y hy
        simp only [D.cells] at hz
        cases j with
        | zero => simp only [Nat.mul_one, Nat.add_zero]; exact h4 i hi
        | succ j => simp at hz)
      (fun i y j z hy hz => by
        obtain ⟨hi, rfl⟩ := hget i y hy
        simp only [D.cells] at hz
        cases j with
        | zero => simp at hz; subst hz; exact .int _ _
        | succ j => simp at hz)
    rw [hlen] at key
    exact key
end Go.Proofs.YtjofhegodknmaaaGreat.V
namespace Go.Proofs.YtjofhegodknmaaaGreat.V
open Go
def cmpI (op : BinOp) (m n : Int) : Option Bool :=
  match op with
  | .eql => some (m == n)
  | .neq => some (m != n)
  | .lss => some (decide (m < n))
  | .leq => some (decide (m ≤ n))
  | .gtr => some (decide (m > n))
  | .geq => some (decide (m ≥ n))
  | _ => none
theorem wr_i16 (n : Int) : IntKind.i16.wrap n = (n + 32768) % 65536 - 32768 := by
  simp only [IntKind.wrap, IntKind.bits, IntKind.signed, Bool.true_and, decide_eq_true_eq, ge_iff_le]
  split <;> omega
theorem wr_i64 (n : Int) : IntKind.i64.wrap n = (n + 9223372036854775808) % 18446744073709551616 - 9223372036854775808 := by
  simp only [IntKind.wrap, IntKind.bits, IntKind.signed, Bool.true_and, decide_eq_true_eq, ge_iff_le]
  split <;> omega
theorem wr_u8 (n : Int) : IntKind.u8.wrap n = n % 256 := by simp [IntKind.wrap, IntKind.bits, IntKind.signed]
theorem wr_u64 (n : Int) : IntKind.u64.wrap n = n % 18446744073709551616 := by simp [IntKind.wrap, IntKind.bits, IntKind.signed]
theorem wf_int {k : IntKind} {n : Int} (h : (Lit.int k n).wf = true) : k.min ≤ n ∧ n ≤ k.max := by simpa [Lit.wf] using h
section
variable [Sig] {P : Program}
def plain (d : D) : D :=
  match d with
  | .sym i => Sig.σ i
  | d => d
theorem plain_rep {F : Mem} {d : D} {v : Value} (h : Rep F d v) : Rep F (plain d) v := by
  cases h with
  | sym i v ho h => exact h
  | int k n => exact .int k n
  | bool b => exact .bool b
  | str s => exact .str s
  | nil => exact .nil
  | lst l a c sz val hc hsz ho h1 h2 => exact .lst l a c sz val hc hsz ho h1 h2
  | agg cs vs hl ho h => exact .agg cs vs hl ho h
  | fp cs a val hs ho h1 h2 => exact .fp cs a val hs ho h1 h2
  | fn f caps vs hl h => exact .fn f caps vs hl h
  | nul0 => exact .nul0
  | nul1 => exact .nul1
  | nul2 => exact .nul2
  | nul3 => exact .nul3
theorem plain_int {F : Mem} {d : D} {v : Value} {k : IntKind} {n : Int} (h : Rep F d v) (hd : plain d = .int k n) : v = .int k n := by
  have := plain_rep h
  rw [hd] at this
  cases this
  rfl
theorem rep_plain_int {F : Mem} {d : D} {k : IntKind} {n : Int} (hd : plain d = .int k n) : Rep F d (.int k n) := by
  cases d with
  | sym i =>
    have h : Sig.σ i = .int k n := hd
    exact .sym i _ (by rw [h]; rfl) (by rw [h]; exact .int k n)
  | _ => simp only [plain] at hd; cases hd <;> exact .int k n
theorem eqGuard_int (op : BinOp) (t : TypeId) (x y : Operand) (k j : IntKind) (m n : Int) : pureSem P (eqGuard op t x y (.int k m) (.int j n)) = some () := by
  have _s : Sig := inferInstance
  unfold eqGuard
  cases op <;> rfl
theorem orc_cmp {op : BinOp} {t w : TypeId} {x y : Operand} {a b : D} {k : IntKind} {m n : Int} {r : Bool} (ha : plain a = .int k m) (hb : plain b = .int k n) (hr : cmpI op m n = some r) :
    OrcHolds P (.binOp op t x y w) [a, b] (.bool r) := by
  intro F _ ρ o ho hR
  have h1 := plain_int (hR 0 x a rfl rfl) ha
  have h2 := plain_int (hR 1 y b rfl rfl) hb
  refine ⟨.bool r, ?_, .bool r⟩
  simp only [execOp, ho, h1, h2]
  simp only [pureSem_bind, eqGuard_int, Option.bind_some]
  have : pureSem P (binOp op t (.int k m) (.int k n)) = some (.bool r) := by
    cases op <;> simp only [cmpI, Option.some.injEq, reduceCtorEq] at hr <;> subst hr <;> simp [binOp, Op.intCmp] <;> rfl
  rw [this]
  rfl
def ariI (op : BinOp) (k : IntKind) (m n : Int) : Option Int :=
  match op with
  | .add => some (k.wrap (m + n))
  | .sub => some (k.wrap (m - n))
  | .mul => some (k.wrap (m * n))
  | .quo => if n = 0 then none else some (k.wrap (m.tdiv n))
  | .rem => if n = 0 then none else some (m.tmod n)
  | _ => none
theorem orc_ari {op : BinOp} {t w : TypeId} {x y : Operand} {a b d : D} {k : IntKind} {m n r : Int} (ha : plain a = .int k m) (hb : plain b = .int k n) (hr : ariI op k m n = some r) (hd : plain d = .int k r) :
    OrcHolds P (.binOp op t x y w) [a, b] d := by
  intro F _ ρ o ho hR
  have h1 := plain_int (hR 0 x a rfl rfl) ha
  have h2 := plain_int (hR 1 y b rfl rfl) hb
  refine ⟨.int k r, ?_, rep_plain_int hd⟩
  simp only [execOp, ho, h1, h2]
  simp only [pureSem_bind, eqGuard_int, Option.bind_some]
  have : pureSem P (binOp op t (.int k m) (.int k n)) = some (.int k r) := by
    cases op <;> simp only [ariI, Option.some.injEq, reduceCtorEq] at hr
    case quo =>
      split at hr
      · simp at hr
      · rename_i hn; simp only [Option.some.injEq] at hr; subst hr; simp [binOp, Op.intDiv, hn]
    case rem =>
      split at hr
      · simp at hr
      · rename_i hn; simp only [Option.some.injEq] at hr; subst hr; simp [binOp, Op.intDiv, hn]
    all_goals (subst hr; simp [binOp, Op.intArith])
  rw [this]
  rfl
def shiftOp : BinOp → Bool
  | .shl | .shr => true
  | _ => false
def bitI (op : BinOp) (k : IntKind) (m n : Int) : Option Int :=
  match op with
  | .shl => if n < 0 then none else some (k.wrap (m * 2 ^ min n.toNat k.bits))
  | .shr => if n < 0 then none else some (m.fdiv (2 ^ min n.toNat k.bits))
  | .and => some (k.wrap (BitVec.ofInt k.bits m &&& BitVec.ofInt k.bits n).toNat)
  | .or => some (k.wrap (BitVec.ofInt k.bits m ||| BitVec.ofInt k.bits n).toNat)
  | .xor => some (k.wrap (BitVec.ofInt k.bits m ^^^ BitVec.ofInt k.bits n).toNat)
  | _ => none
theorem eqGuard_bit {op : BinOp} {k : IntKind} {m n r : Int} (hr : bitI op k m n = some r) (t : TypeId) (x y : Operand) (a b : Value) : pureSem P (eqGuard op t x y a b) = some () := by
  have _s : Sig := inferInstance
  cases op <;> simp only [bitI, reduceCtorEq] at hr <;> rfl
theorem orc_bit {op : BinOp} {t w : TypeId} {x y : Operand} {a b d : D} {k j : IntKind} {m n r : Int} (ha : plain a = .int k m) (hb : plain b = .int j n) (hj : shiftOp op = true ∨ j = k) (hr : bitI op k m n = some r) (hd : plain d = .int k r) :
    OrcHolds P (.binOp op t x y w) [a, b] d := by
  intro F _ ρ o ho hR
  have h1 := plain_int (hR 0 x a rfl rfl) ha
  have h2 := plain_int (hR 1 y b rfl rfl) hb
  refine ⟨.int k r, ?_, rep_plain_int hd⟩
  simp only [execOp, ho, h1, h2]
  simp only [pureSem_bind, eqGuard_bit hr, Option.bind_some]
  have : pureSem P (binOp op t (.int k m) (.int j n)) = some (.int k r) := by
    cases op <;> simp only [bitI, Option.some.injEq, reduceCtorEq] at hr
    case shl =>
      split at hr
      · simp at hr
      · rename_i hn; simp only [Option.some.injEq] at hr; subst hr; simp [binOp, Op.shift, hn, pureSem]
    case shr =>
      split at hr
      · simp at hr
      · rename_i hn; simp only [Option.some.injEq] at hr; subst hr; simp [binOp, Op.shift, hn, pureSem]
    all_goals
      rcases hj with hj | rfl
      · simp [shiftOp] at hj
      · subst hr; simp [binOp, Op.intBits, pureSem]
  rw [this]
  rfl
inductive Fact where
  | cmp (op : BinOp) (a b : D) (r : Bool)
  | ari (op : BinOp) (a b d : D)
  | conv (s t : TypeId) (a d : D)
  | mx (b : Builtin) (a c d : D)
def mxI (b : Builtin) (m n : Int) : Option Int :=
  match b with
  | .max => some (if n > m then n else m)
  | .min => some (if n < m then n else m)
  | _ => none
def Fact.ok (P : Program) : Fact → Prop
  | .cmp op a b r => ∃ k m n, plain a = .int k m ∧ plain b = .int k n ∧ cmpI op m n = some r
  | .ari op a b d => (∃ k m n r, plain a = .int k m ∧ plain b = .int k n ∧ ariI op k m n = some r ∧ plain d = .int k r) ∨ (∃ k j m n r, plain a = .int k m ∧ plain b = .int j n ∧ (shiftOp op = true ∨ j = k) ∧ bitI op k m n = some r ∧ plain d = .int k r)
  | .conv s t a d => ∃ sd k j n, P.underlying s = some sd ∧ plain a = .int k n ∧ P.underlying t = some (.int j) ∧ plain d = .int j (j.wrap n)
  | .mx b a c d => ∃ k m n r, plain a = .int k m ∧ plain c = .int k n ∧ mxI b m n = some r ∧ plain d = .int k r
end
end Go.Proofs.YtjofhegodknmaaaGreat.V
namespace Go.Proofs.YtjofhegodknmaaaGreat.V
open Go Go.RowKit
def Fresh (s : St) : Prop := ∀ y, s.nx ≤ y → getO s.st y = none
section
variable [Sig] {P : Program} {an : An}
structure Run (P : Program) (c : Code) (s : St) (x : X) (s' : St) : Prop where
  fresh : Fresh s → Fresh s'
  wp : ∀ w F L b0 a, SR w F L b0 (getO s.st) → TR F L s.tm a.tmps → a.defers = [] → Fresh s → b0 ≤ w.heap.size → c.wp P (Post w F L b0 x s') a w
structure LRun (P : Program) (c : Code) (s : St) (x : X) (s' : St) : Prop where
  fresh : Fresh s → Fresh s'
  wp : ∃ n, ∀ w F L b0 a, SR w F L b0 (getO s.st) → TR F L s.tm a.tmps → a.defers = [] → Fresh s → b0 ≤ w.heap.size → Code.rounds P c (Post w F L b0 x s') n a w
theorem Run.of_exec (hN : Good P an) (hR : RegsP P) (hm : P.follows .mixedOrders = true) {k : Nat} {c : Code} {s : St} {x : X} {s' : St} (hg : Regs c) (h : exec P an k c s = some (x, s')) : Run P c s x s' :=
  ⟨exec_fresh h, fun w F L b0 a hS hT hd hf hb => (exec_ok hN hm k fun j _ => pcall_ok hN hR hm j).1 c s x s' w F L b0 a hg h hS hT hd hf hb⟩
theorem Run.seq {c d : Code} {s s1 s' : St} {x : X} (h : Run P c s .normal s1) (h' : Run P d s1 x s') : Run P (.seq c d) s x s' :=
  ⟨fun hf => h'.fresh (h.fresh hf), fun w F L b0 a hS hT hd hf hb => wp_seq (Code.wp_mono (fun e a' w' hp => by
    obtain ⟨rfl, hd', F', L', hE, hS', hT'⟩ := hp
    exact Code.wp_mono (fun e a2 w2 h2 => h2.from hE) (h'.wp w' F' L' b0 a' hS' hT' hd' (h.fresh hf) (Nat.le_trans hb hE.size))) (h.wp w F L b0 a hS hT hd hf hb))⟩
theorem Run.seq_out {c d : Code} {s s' : St} {x : X} (h : Run P c s x s') (hx : x ≠ .normal) : Run P (.seq c d) s x s' :=
  ⟨h.fresh, fun w F L b0 a hS hT hd hf hb => wp_seq (Code.wp_mono (fun e a' w' hp => by
    have h2 := hp
    obtain ⟨rfl, _⟩ := h2
    cases x with
    | normal => exact absurd rfl hx
    | exit id => exact hp
    | ret => exact hp) (h.wp w F L b0 a hS hT hd hf hb))⟩
theorem Run.block {b : Code} {id : Nat} {s s' : St} {x : X} (h : Run P b s x s') : Run P (.block id b) s (if x = .exit id then .normal else x) s' :=
  ⟨h.fresh, fun w F L b0 a hS hT hd hf hb => wp_block (Code.wp_mono (fun e a' w' hp => by
    obtain ⟨rfl, hd', r⟩ := hp
    cases x with
    | normal => exact ⟨rfl, hd', r⟩
    | ret => exact ⟨rfl, hd', r⟩
    | exit j =>
      by_cases e : j = id
      · subst e; simp only [toE, Exit.inBlock, if_pos]; exact ⟨rfl, hd', r⟩
      · have e' : ¬ X.exit j = X.exit id := fun h => e (by injection h)
        simp only [toE, Exit.inBlock, if_neg e, if_neg e']; exact ⟨rfl, hd', r⟩) (h.wp w F L b0 a hS hT hd hf hb))⟩
theorem Run.cond_true {c d : Code} {y : Operand} {s s' : St} {x : X} (hy : evalU s.tm y = some (.dat (.bool true))) (h : Run P c s x s') : Run P (.cond y c d) s x s' :=
  ⟨h.fresh, fun w F L b0 a hS hT hd hf hb => wp_cond (t := true) (by
    have hr := eval_rep hT hy
    generalize a.eval y = z at hr
    cases hr with
    | dat _ _ hr => cases hr; rfl) (h.wp w F L b0 a hS hT hd hf hb)⟩
theorem Run.cond_false {c d : Code} {y : Operand} {s s' : St} {x : X} (hy : evalU s.tm y = some (.dat (.bool false))) (h : Run P d s x s') : Run P (.cond y c d) s x s' :=
  ⟨h.fresh, fun w F L b0 a hS hT hd hf hb => wp_cond (t := false) (by
    have hr := eval_rep hT hy
    generalize a.eval y = z at hr
    cases hr with
    | dat _ _ hr => cases hr; rfl) (h.wp w F L b0 a hS hT hd hf hb)⟩
theorem rounds_mono {c : Code} {Q Q' : Exit → Act → World → Prop} (hq : ∀ e a w, Q e a w → Q' e a w) : ∀ (n : Nat) (a : Act) (w : World), Code.rounds P c Q n a w → Code.rounds P c Q' n a w := by
  have _s : Sig := inferInstance
  intro n
  induction n with
  | zero => intro a w h; exact h
  | succ n ih =>
    intro a w h
    rw [rounds_succ] at h ⊢
    refine Code.wp_mono (fun e a' w' hp => ?_) h
    cases e with
    | normal => exact ih _ _ hp
    | _ => exact hq _ _ _ hp
theorem LRun.step {c : Code} {s s1 s' : St} {x : X} (h : Run P c s .normal s1) (h' : LRun P c s1 x s') : LRun P c s x s' := by
  obtain ⟨n, hn⟩ := h'.wp
  refine ⟨fun hf => h'.fresh (h.fresh hf), n + 1, fun w F L b0 a hS hT hd hf hb => ?_⟩
  rw [rounds_succ]
  refine Code.wp_mono (fun e a' w' hp => ?_) (h.wp w F L b0 a hS hT hd hf hb)
  obtain ⟨rfl, hd', F', L', hE, hS', hT'⟩ := hp
  have := hn w' F' L' b0 a' hS' hT' hd' (h.fresh hf) (Nat.le_trans hb hE.size)
  refine rounds_mono ?_ n a' w' this
  exact fun e a2 w2 h2 => h2.from hE
theorem LRun.out {c : Code} {s s' : St} {x : X} (h : Run P c s x s') (hx : x ≠ .normal) : LRun P c s x s' := by
  refine ⟨h.fresh, 1, fun w F L b0 a hS hT hd hf hb => ?_⟩
  rw [rounds_succ]
  refine Code.wp_mono (fun e a' w' hp => ?_) (h.wp w F L b0 a hS hT hd hf hb)
  have h2 := hp
  obtain ⟨rfl, _⟩ := h2
  cases x with
  | normal => exact absurd rfl hx
  | exit id => exact hp
  | ret => exact hp
theorem Run.loop {c : Code} {s s' : St} {x : X} (h : LRun P c s x s') : Run P (.loop c) s x s' := by
  obtain ⟨n, hn⟩ := h.wp
  exact ⟨h.fresh, fun w F L b0 a hS hT hd hf hb => wp_loop_rounds n (hn w F L b0 a hS hT hd hf hb)⟩
end
section
variable [Sig] {P : Program}
theorem calls_of_run {f : Nat} {fn : Func} {c : Code} (hfn : P.funcs[f]? = some fn) (hc : fn.body = some c) {us0 : List U} {s' : St} {x : X} (h : Run P c ⟨us0 ++ List.replicate (fn.ntmps - us0.length) .undef, [], 0⟩ x s') (hx : x = .normal ∨ x = .ret)
    {us : List U} (hres : fn.results.toList.mapM (resU P (getO s'.st) s'.tm) = some us) {w : World} {F : Mem} {vs : List Value} (hF : ∀ a v, F a = some v → w.cell? a = some v) (hA : Args F none0 us0 vs) :
    Calls P f vs.toArray w fun e w' => ∃ vs' F' L', e = .returned (if h : vs'.toArray.size = 1 then vs'.toArray[0] else .tuple vs'.toArray) ∧ Evo w F none0 w' F' L' ∧ SR w' F' L' w.heap.size (getO s'.st) ∧ Args F' L' us vs' := by
  have hS : SR w F none0 w.heap.size (getO []) := ⟨hF, fun _ _ => rfl, fun o ob h => by simp [getO] at h, fun o o' i i' h => by simp [none0] at h⟩
  refine calls_of_wp hfn hc ?_
  have hT : TR F none0 (us0 ++ List.replicate (fn.ntmps - us0.length) U.undef) (vs.toArray ++ Array.replicate (fn.ntmps - vs.toArray.size) Go.undef) := by
    have hl := hA.1
    refine ⟨by simp [hl], fun t u' hu => ?_⟩
    by_cases ht : t < us0.length
    · rw [List.getElem?_append_left ht] at hu
      have ht' : t < vs.length := by omega
      exact ⟨vs[t], by simp [Array.getElem?_append, ht'], hA.2 t u' _ hu (List.getElem?_eq_getElem ht')⟩
    · rw [List.getElem?_append_right (by omega)] at hu
      rw [List.getElem?_replicate] at hu
      split at hu
      · rename_i hlt
        obtain rfl := Option.some.inj hu
        have : ¬ t < vs.length := by omega
        have hlt' : t - vs.length < fn.ntmps - vs.length := by omega
        exact ⟨Go.undef, by simp [Array.getElem?_append, this, Array.getElem?_replicate, hlt'], .undef⟩
      · simp at hu
  refine Code.wp_mono (fun e a' w' hp => ?_) (h.wp w F none0 w.heap.size _ hS hT rfl (fun _ _ => rfl) (Nat.le_refl _))
  obtain ⟨rfl, hd, F', L', hE, hS', hT'⟩ := hp
  obtain ⟨vs', hargs, hrun⟩ := results_ok hS' hT' hres
  rcases hx with rfl | rfl
  · exact ⟨hd, _, hrun, vs', F', L', rfl, hE, hS', hargs⟩
  · exact ⟨hd, _, hrun, vs', F', L', rfl, hE, hS', hargs⟩
theorem holds_of_run {f : Nat} {fn : Func} {c : Code} (hfn : P.funcs[f]? = some fn) (hc : fn.body = some c) {ds : List D} {s' : St} {x : X} (h : Run P c ⟨ds.map .dat ++ List.replicate (fn.ntmps - (ds.map U.dat).length) .undef, [], 0⟩ x s') (hx : x = .normal ∨ x = .ret)
    {us : List U} (hres : fn.results.toList.mapM (resU P (getO s'.st) s'.tm) = some us) {rs : List (D × List Nat)} (hrs : us.mapM (toD (getO s'.st) 40) = some rs) : Holds P f ds (rs.map (·.1)) := by
  refine ⟨⟨fn, c, hfn, hc⟩, fun w F vs hF hA => ?_⟩
  refine Calls.mono (calls_of_run hfn hc h hx hres hF hA) fun e w' he => ?_
  obtain ⟨vs', F', L', rfl, hE, hS', hargs⟩ := he
  have hs := hS'.snapped (rs.flatMap (·.2))
  refine ⟨_, _, L', rfl, hE.trans hs.2, hs.1.mem, ?_⟩
  have hel : ∀ (i : Nat) u v, ((rs.map (·.1)).map U.dat)[i]? = some u → vs'[i]? = some v → RepU (FS F' w' L' (getO s'.st) (rs.flatMap (·.2))) none0 u v := by
    intro i u v hu hv
    rw [List.map_map, List.getElem?_map] at hu
    obtain ⟨d, hd, rfl⟩ := Option.map_eq_some_iff.1 hu
    obtain ⟨y, hy, hyd⟩ := mapM_back hrs hd
    exact .dat _ _ ((toD_rep hS' 40 y v d hyd (hargs.2 i y v hy hv)).mono (FS_mono fun z hz => List.mem_flatMap.2 ⟨d, List.mem_of_getElem? hd, hz⟩))
  have hl : vs'.length = rs.length := by rw [hargs.1, (mapM_some hrs).1]
  by_cases h1 : rs.length = 1
  · obtain ⟨d, rfl⟩ := List.length_eq_one_iff.1 h1
    obtain ⟨v, rfl⟩ := List.length_eq_one_iff.1 (hl.trans h1)
    exact hel 0 _ v rfl rfl
  · have hne : resD (rs.map (·.1)) = .tup ((rs.map (·.1)).map U.dat) := by
      unfold resD
      split
      · rename_i d e; have := congrArg List.length e; simp at this; exact absurd this h1
      · rfl
    have h2 : ¬ vs'.toArray.size = 1 := by simp [hl, h1]
    rw [hne, dif_neg h2]
    exact .tup _ _ (by simp [hl]) hel
end
end Go.Proofs.YtjofhegodknmaaaGreat.V
namespace Go.Proofs.YtjofhegodknmaaaGreat.V
open Go Go.RowKit
def cloneOf (fs : List Nat) (f : Nat) (us : List U) (st : Store) (nx : Nat) : Option (U × Store × Nat) :=
  if fs.any (Nat.beq f) then
    match us with
    | [.map o gn] =>
      match getO st o with
      | some ob => if ob.gen = gn ∧ ob.esz = 0 then some (.map nx 0, setO st nx { ob with gen := 0, snap := false }, nx + 1) else none
      | none => none
    | _ => none
  else none
variable [Sig] {P : Program}
structure Clones (P : Program) (f : Nat) : Prop where
  body : ∃ fn c, P.funcs[f]? = some fn ∧ fn.body = some c
  calls : ∀ (b : Nat) (es : Array MapEntry) (clk : Nat) (w : World), w.heap[b]? = some (.map es clk) → Calls P f #[.map (some b)] w fun e w' => e = .returned (.map (some w.heap.size)) ∧ w' = w.alloc (.map es clk)
theorem clone_holds {fs : List Nat} (h : ∀ f ∈ fs, Clones P f) {f : Nat} {us : List U} {st : Store} {nx : Nat} {u : U} {st' : Store} {nx' : Nat} (hh : cloneOf fs f us st nx = some (u, st', nx')) : CallHolds P f us st nx u st' := by
  unfold cloneOf at hh
  split at hh
  · rename_i hf
    obtain ⟨f', hf1, hf2⟩ := List.any_eq_true.1 hf
    obtain rfl := Nat.eq_of_beq_eq_true hf2
    have hC := h _ hf1
    split at hh
    · rename_i o gn
      split at hh
      · rename_i ob hob
        split at hh
        · rename_i hcond
          obtain ⟨hgn, he⟩ := hcond
          simp only [Option.some.injEq, Prod.mk.injEq] at hh
          obtain ⟨rfl, rfl, rfl⟩ := hh
          refine ⟨hC.body, fun w F L b0 vs hS hA hfr hb => ?_⟩
          have hl := hA.1
          simp at hl
          obtain ⟨v, rfl⟩ := List.length_eq_one_iff.1 hl
          have hr := hA.2 0 _ v rfl rfl
          obtain ⟨i, es, clk, hL, r1, r2, r4, rfl, hheap, hKV, hF⟩ := map_now hS hob hgn he hr
          refine Calls.mono (hC.calls i.blk es clk w hheap) fun e w' hp => ?_
          obtain ⟨rfl, rfl⟩ := hp
          have hnone : L nx = none := hS.non nx (hfr nx (Nat.le_refl _))
          have hf : mapArr es = (flat2 es.toList).toArray := rfl
          obtain ⟨hS', hE⟩ := hS.upd (w' := w.alloc (.map es clk)) nx { ob with gen := 0, snap := false } ⟨0, w.heap.size, 0, 0⟩ (mapArr es) (by simp) rfl rfl rfl (fun k hk _ => heap_old w _ hk)
            (.inr ⟨he, by rw [hf]; simpa using hKV.len.2, es, clk, heap_alloc_new w _, rfl⟩) (fun _ off => noF hS (Nat.le_refl _)) (fun h => by simp only at h; omega) rfl he.symm hb (by rw [hf]; simpa using Nat.le_of_eq hKV.len.2)
            (fun off v hv => by rw [noF hS (a := ⟨w.heap.size, off, none⟩) (Nat.le_refl _)] at hv; simp at hv) (fun off _ => noF hS (Nat.le_refl _))
            (.inr ⟨Nat.le_refl _, fun j hj => by rw [hnone] at hj; simp at hj⟩)
            (fun j u hu => by
              obtain ⟨v, hv, hr⟩ := hKV.at j u hu
              exact ⟨fun h => by simp only at h; omega, v, by rw [hf]; simpa using hv, .inl hr⟩)
          have hst : (fun x => if x = nx then some { ob with gen := 0, snap := false } else getO st x) = getO (setO st nx { ob with gen := 0, snap := false }) := by
            funext x
            rw [getO_setO]
          rw [hst] at hS'
          exact ⟨_, F, _, rfl, hE, hS', RepU.map (F := F) (L := LPut L nx ⟨0, w.heap.size, 0, 0⟩) nx ⟨0, w.heap.size, 0, 0⟩ (by simp [LPut])⟩
        · simp at hh
      · simp at hh
    · simp at hh
  · simp at hh
end Go.Proofs.YtjofhegodknmaaaGreat.V
namespace Go.Proofs.YtjofhegodknmaaaGreat.V
open Go Go.RowKit
mutual
def inD (σ : Nat → D) : D → D
  | .sym i => σ i
  | .lst l => .lst (inDs σ l)
  | .agg l => .agg (inDs σ l)
  | .fp l => .fp (inDs σ l)
  | .fn f l => .fn f (inDs σ l)
  | .int k n => .int k n
  | .bool b => .bool b
  | .str s => .str s
  | .nil => .nil
  | .nul k => .nul k
def inDs (σ : Nat → D) : List D → List D
  | [] => []
  | d :: r => inD σ d :: inDs σ r
def noSym : D → Bool
  | .sym _ => false
  | .lst l => noSyms l
  | .agg l => noSyms l
  | .fp l => noSyms l
  | .fn _ l => noSyms l
  | _ => true
def noSyms : List D → Bool
  | [] => true
  | d :: r => noSym d && noSyms r
end
theorem noSyms_mem : ∀ {l : List D}, noSyms l = true → ∀ {i : Nat} {d : D}, l[i]? = some d → noSym d = true
  | [], _, i, d, h => by simp at h
  | x :: r, hn, i, d, h => by
    simp only [noSyms, Bool.and_eq_true] at hn
    cases i with
    | zero => simp at h; subst h; exact hn.1
    | succ i => simp at h; exact noSyms_mem hn.2 h
theorem noSym_cells {d : D} (h : noSym d = true) {j : Nat} {y : D} (hj : d.cells[j]? = some y) : noSym y = true := by
  cases d with
  | agg l => simp only [noSym] at h; exact noSyms_mem h hj
  | _ =>
    simp only [D.cells] at hj
    cases j with
    | zero => simp at hj; subst hj; exact h
    | succ j => simp at hj
abbrev sig0 : Sig := ⟨fun _ => .nil⟩
theorem rep_any {s s' : Sig} {F : Mem} {d : D} {v : Value} (h : @Rep s F d v) : noSym d = true → @Rep s' F d v := by
  letI : Sig := s'
  induction h with
  | int k n => exact fun _ => .int k n
  | bool b => exact fun _ => .bool b
  | str s => exact fun _ => .str s
  | nil => exact fun _ => .nil
  | lst l a c sz val hc hsz ho h1 h2 ih =>
    intro hn
    exact .lst l a c sz val hc hsz ho h1 fun i x j y hx hy => ih i x j y hx hy (noSym_cells (noSyms_mem hn hx) hy)
  | agg cs vs hl ho h ih => intro hn; exact .agg cs vs hl ho fun i y v hy hv => ih i y v hy hv (noSyms_mem hn hy)
  | fp cs a val hs ho h1 h2 ih => intro hn; exact .fp cs a val hs ho h1 fun i y hy => ih i y hy (noSyms_mem hn hy)
  | fn f caps vs hl h ih => intro hn; exact .fn f caps vs hl fun i y v hy hv => ih i y v hy hv (noSyms_mem hn hy)
  | nul0 => exact fun _ => .nul0
  | nul1 => exact fun _ => .nul1
  | nul2 => exact fun _ => .nul2
  | nul3 => exact fun _ => .nul3
  | sym i v ho h ih => intro hn; simp [noSym] at hn
mutual
def inU (σ : Nat → D) : U → U
  | .dat d => .dat (inD σ d)
  | .agg l => .agg (inUs σ l)
  | .tup l => .tup (inUs σ l)
  | .fn f l => .fn f (inUs σ l)
  | .ptr o g p => .ptr o g p
  | .own o g a n => .own o g a n
  | .undef => .undef
  | .junk => .junk
  | .map o g => .map o g
def inUs (σ : Nat → D) : List U → List U
  | [] => []
  | u :: r => inU σ u :: inUs σ r
end
def inO (σ : Nat → D) (ob : Obj) : Obj := { ob with cells := inUs σ ob.cells }
def inSt (σ : Nat → D) (s : Store) : Store := s.map fun p => (p.1, inO σ p.2)
theorem getO_in (σ : Nat → D) : ∀ (s : Store) (o : Nat), getO (inSt σ s) o = (getO s o).map (inO σ)
  | [], o => rfl
  | (o', e) :: r, o => by
    show getO ((o', inO σ e) :: inSt σ r) o = _
    simp only [getO]
    split
    · rfl
    · exact getO_in σ r o
theorem Holds.any {s : Sig} {P : Program} {f : Nat} {ds rs : List D} (h : @Holds sig0 P f ds rs) (h1 : noSyms ds = true) (h2 : noSyms rs = true) : @Holds s P f ds rs := by
  letI : Sig := sig0
  refine @Holds.mk s P f _ _ h.body (fun w F vs hF hA => ?_)
  have hA' : Args F none0 (ds.map .dat) vs := by
    refine ⟨@And.left _ _ hA, fun i u v hu hv => ?_⟩
    have := @And.right _ _ hA i u v hu hv
    rw [List.getElem?_map] at hu
    obtain ⟨d, hd, rfl⟩ := Option.map_eq_some_iff.1 hu
    cases this with
    | dat _ _ hr => exact .dat _ _ (rep_any hr (noSyms_mem h1 hd))
  refine Calls.mono (h.calls w F vs hF hA') fun e w' he => ?_
  obtain ⟨v, F', L', rfl, hE, hm, hr⟩ := he
  refine ⟨v, F', L', rfl, hE, hm, ?_⟩
  clear hE hm
  unfold resD at hr ⊢
  split at hr
  · rename_i d
    cases hr with
    | dat _ _ hr => exact @RepU.dat s _ _ _ _ (rep_any hr (by simpa [noSyms] using h2))
  · cases hr with
    | tup _ vals hl hR =>
      refine @RepU.tup s _ _ _ vals hl (fun i u v hu hv => ?_)
      have := hR i u v hu hv
      rw [List.getElem?_map] at hu
      obtain ⟨d, hd, rfl⟩ := Option.map_eq_some_iff.1 hu
      cases this with
      | dat _ _ hr => exact @RepU.dat s _ _ _ _ (rep_any hr (noSyms_mem h2 hd))
def tblNo (t : Tbl) : Bool := t.all fun e => e.2.all fun r => noSyms r.1 && noSyms r.2
theorem TblOk.any {s : Sig} {P : Program} {t : Tbl} (hn : tblNo t = true) (h : @TblOk sig0 P t) : @TblOk s P t := by
  intro e he r hr
  unfold tblNo at hn
  have h1 := List.all_eq_true.1 (List.all_eq_true.1 hn e he) r hr
  simp only [Bool.and_eq_true] at h1
  exact (h e he r hr).any h1.1 h1.2
end Go.Proofs.YtjofhegodknmaaaGreat.V
namespace Go.Proofs.YtjofhegodknmaaaGreat.V
open Go Go.RowKit
def mask : List Bool → List U → List U
  | [], l => l.map fun _ => .junk
  | _, [] => []
  | true :: k, u :: l => forceU u fun u => u :: mask k l
  | false :: k, _ :: l => .junk :: mask k l
theorem mask_get : ∀ {k : List Bool} {l : List U} {t : Nat} {u : U}, (mask k l)[t]? = some u → u = .junk ∨ l[t]? = some u
  | [], l, t, u, h => by
    simp only [mask, List.getElem?_map] at h
    obtain ⟨x, _, rfl⟩ := Option.map_eq_some_iff.1 h
    exact .inl rfl
  | _ :: _, [], t, u, h => by simp [mask] at h
  | true :: k, a :: l, t, u, h => by
    simp only [mask, forceU_eq] at h
    cases t with
    | zero => exact .inr h
    | succ t => simp at h ⊢; exact mask_get h
  | false :: k, a :: l, t, u, h => by
    simp only [mask] at h
    cases t with
    | zero => simp at h; exact .inl h.symm
    | succ t => simp at h ⊢; exact mask_get h
theorem mask_length : ∀ (k : List Bool) (l : List U), (mask k l).length = l.length
  | [], l => by simp [mask]
  | _ :: _, [] => by simp [mask]
  | true :: k, a :: l => by simp [mask, forceU_eq, mask_length k l]
  | false :: k, a :: l => by simp [mask, mask_length k l]
theorem getO_in_st {s : Store} {o : Nat} (h : getO s o ≠ none) : ∃ p ∈ s, p.1 = o := by
  induction s with
  | nil => simp [getO] at h
  | cons p r ih =>
    obtain ⟨o', e⟩ := p
    simp only [getO] at h
    split at h
    · rename_i he; exact ⟨(o', e), List.mem_cons_self .., he⟩
    · obtain ⟨q, hq, he⟩ := ih h; exact ⟨q, by simp [hq], he⟩
section
variable [Sig] {P : Program} {an : An}
end
def dataO (g : Nat → Option Obj) (o : Nat) : Option ((Nat × Obj) × List Nat) :=
  match g o with
  | some ob =>
    match ob.cells.mapM (toD g 40) with
    | some cs => forceDN cs fun cs => some ((o, { ob with cells := cs.map fun c => .dat c.1 }), cs.flatMap (·.2))
    | none => none
  | none => none
def weakD (s s' : St) (ids : List Nat) (keep : List Bool) (nx : Nat) : Option St :=
  match ids.mapM (dataO (getO s'.st)) with
  | some l =>
    if (l.flatMap (·.2)).all (fun x => !ids.contains x) && (refsL (mask keep s'.tm)).all (fun x => ids.contains x) && (s.st.all fun p => ids.contains p.1) && (ids.all fun x => decide (x < nx)) then
      forceUp (l.map (·.1)) fun st => forceL (mask keep s'.tm) fun tm => some ⟨tm, st, nx⟩
    else none
  | none => none
theorem getO_pair {s : Store} {o : Nat} {e : Obj} (h : getO s o = some e) : (o, e) ∈ s := by
  induction s with
  | nil => simp [getO] at h
  | cons p r ih =>
    obtain ⟨o', e'⟩ := p
    simp only [getO] at h
    split at h
    · rename_i he
      subst he
      obtain rfl := Option.some.inj h
      simp
    · exact List.mem_cons_of_mem _ (ih h)
theorem getO_key {s : Store} {o : Nat} {e : Obj} (h : (o, e) ∈ s) : getO s o ≠ none := by
  induction s with
  | nil => simp at h
  | cons p r ih =>
    obtain ⟨o', e'⟩ := p
    simp only [getO]
    split
    · simp
    · rename_i hne
      rcases List.mem_cons.1 h with h1 | h1
      · injection h1 with h2 h3; exact absurd h2.symm hne
      · exact ih h1
theorem dataO_spec {g : Nat → Option Obj} {o : Nat} {q : (Nat × Obj) × List Nat} (h : dataO g o = some q) :
    ∃ ob cs, g o = some ob ∧ ob.cells.mapM (toD g 40) = some cs ∧ q = ((o, { ob with cells := cs.map fun c => .dat c.1 }), cs.flatMap (·.2)) := by
  unfold dataO at h
  split at h
  · rename_i ob hob
    split at h
    · rename_i cs hcs
      simp only [forceDN_eq, Option.some.injEq] at h
      exact ⟨ob, cs, hob, hcs, h.symm⟩
    · simp at h
  · simp at h
section
variable [Sig] {P : Program} {an : An}
theorem Run.data {c : Code} {s : St} {x : X} {s' s2 : St} (h : Run P c s x s') {ids : List Nat} {keep : List Bool} {nx : Nat} (hw : weakD s s' ids keep nx = some s2) : Run P c s x s2 := by
  unfold weakD at hw
  split at hw
  · rename_i l hl
    split at hw
    · rename_i hc
      simp only [forceUp_eq, forceL_eq, Option.some.injEq] at hw
      subst hw
      simp only [Bool.and_eq_true] at hc
      obtain ⟨⟨⟨hdis, hrf⟩, hold⟩, hlt⟩ := hc
      rw [List.all_eq_true] at hdis hrf hold hlt
      have hkeep : ∀ o, getO s.st o ≠ none → o ∈ ids := by
        intro o ho
        obtain ⟨p, hp, rfl⟩ := getO_in_st ho
        simpa using hold p hp
      have hobj : ∀ o e, getO (l.map (·.1)) o = some e → o ∈ ids ∧ ∃ ob cs, getO s'.st o = some ob ∧ ob.cells.mapM (toD (getO s'.st) 40) = some cs ∧ e = { ob with cells := cs.map fun c => .dat c.1 } ∧ ∀ z ∈ cs.flatMap (·.2), z ∈ l.flatMap (·.2) := by
        intro o e he
        have hm := getO_pair he
        obtain ⟨q, hq, hqe⟩ := List.mem_map.1 hm
        obtain ⟨i, hi⟩ := List.getElem?_of_mem hq
        obtain ⟨o', ho', hd⟩ := mapM_back hl hi
        obtain ⟨ob, cs, h1, h2, rfl⟩ := dataO_spec hd
        simp only [Prod.mk.injEq] at hqe
        obtain ⟨rfl, rfl⟩ := hqe
        exact ⟨List.mem_of_getElem? ho', ob, cs, h1, h2, rfl, fun z hz => List.mem_flatMap.2 ⟨_, hq, hz⟩⟩
      have hin : ∀ o ∈ ids, getO (l.map (·.1)) o ≠ none := by
        intro o ho
        obtain ⟨i, hi⟩ := List.getElem?_of_mem ho
        obtain ⟨q, hq, hd⟩ := (mapM_some hl).2 i o hi
        obtain ⟨ob, cs, h1, h2, rfl⟩ := dataO_spec hd
        exact getO_key (e := { ob with cells := cs.map fun c => .dat c.1 }) (List.mem_map.2 ⟨_, List.mem_of_getElem? hq, rfl⟩)
      refine ⟨fun _ y hy => ?_, fun w F L b0 a hS hT hd hf hb => ?_⟩
      · simp only at hy ⊢
        cases e : getO (l.map (·.1)) y with
        | none => rfl
        | some ob =>
          have := hlt y (hobj y ob e).1
          simp at this
          omega
      · refine Code.wp_mono (fun e a' w' hp => ?_) (h.wp w F L b0 a hS hT hd hf hb)
        obtain ⟨rfl, hd', F', L', hE, hS', hT'⟩ := hp
        have hs := hS'.snapped (l.flatMap (·.2))
        refine ⟨rfl, hd', FS F' w' L' (getO s'.st) (l.flatMap (·.2)), cutL L' ids, ?_, ⟨hs.1.mem, fun o ho => ?_, fun o ob' ho => ?_, fun o o' i i' hi hi' e => ?_⟩, ?_⟩
        · have hE2 := hE.trans hs.2
          refine ⟨hE2.size, hE2.os, hE2.tape, hE2.output, hE2.memLe, fun o i hi => ?_, hE2.frame, hE2.newMem, fun o i hi => ?_⟩
          · have hin : o ∈ ids := hkeep o fun e => by rw [hS.non o e] at hi; simp at hi
            obtain ⟨i', hi', hr⟩ := hE2.layLe o i hi
            exact ⟨i', by simp [cutL, hin, hi'], hr⟩
          · unfold cutL at hi
            split at hi
            · exact hE2.newObj o i hi
            · simp at hi
        · unfold cutL
          split
          · rename_i hi; exact absurd ho (hin o hi)
          · rfl
        · obtain ⟨hoi, ob, cs, hob, hcs, rfl, hsub⟩ := hobj o ob' ho
          have hnS : o ∉ l.flatMap (·.2) := by
            intro hc
            have := hdis o hc
            simp [hoi] at this
          have hob2 : updF (getO s'.st) (snapAll (getO s'.st) (l.flatMap (·.2))) o = some ob := by
            rw [updF_snap (getO s'.st) (l.flatMap (·.2)) (getO s'.st) (fun _ => .inl rfl), if_neg hnS, hob]
          obtain ⟨i, arr, hL, r1, r2, r3, r4, hh, r5, hcl, hfr⟩ := hs.1.obj o ob hob2
          obtain ⟨i2, arr2, hL2, _, _, _, _, hh2, _, hcl2, _⟩ := hS'.obj o ob hob
          rw [hL] at hL2
          obtain rfl := Option.some.inj hL2
          obtain rfl := hh.inj hh2
          have hlen : (cs.map fun c => U.dat c.1).length = ob.cells.length := by rw [List.length_map, (mapM_some hcs).1]
          refine ⟨i, arr, by simp [cutL, hoi, hL], r1, r2, r3, r4, hh.like rfl rfl (by simp only; exact hlen), by simp only; rw [hlen]; exact r5, fun j u hu => ?_, fun off hoff => hfr off (fun hsn => by have := hoff hsn; simp only at this; rw [hlen] at this; exact this)⟩
          simp only [List.getElem?_map] at hu
          obtain ⟨c, hc, rfl⟩ := Option.map_eq_some_iff.1 hu
          obtain ⟨y, hy, hyd⟩ := mapM_back hcs hc
          obtain ⟨h1, v, hv, hr⟩ := hcl2 j y hy
          exact ⟨fun he => toD_one 40 hyd (h1 he), v, hv, .dat _ _ ((toD_rep hS' 40 y v c hyd hr).mono (FS_mono fun z hz => hsub z (List.mem_flatMap.2 ⟨c, List.mem_of_getElem? hc, hz⟩)))⟩
        · unfold cutL at hi hi'
          split at hi
          · split at hi'
            · exact hS'.inj o o' i i' hi hi' e
            · simp at hi'
          · simp at hi
        · refine ⟨by simp only [mask_length]; exact hT'.1, fun t u hu => ?_⟩
          simp only at hu
          have hin : ∀ r ∈ refs u, r ∈ ids := fun r hr => by simpa using hrf r (refsL_mem hu hr)
          rcases mask_get hu with rfl | h1
          · have hlt2 : t < a'.tmps.size := by
              rw [hT'.1, ← mask_length keep s'.tm]
              exact (List.getElem?_eq_some_iff.1 hu).1
            exact ⟨a'.tmps[t], by simp [hlt2], .junk _⟩
          · obtain ⟨v, hv, hr⟩ := hT'.2 t u h1
            exact ⟨v, hv, (hr.mono (FS_le _ _ _ _ _) (.refl _)).cut hin⟩
    · simp at hw
  · simp at hw
end
end Go.Proofs.YtjofhegodknmaaaGreat.V
namespace Go.Proofs.YtjofhegodknmaaaGreat.V
open Go Go.RowKit
inductive Gact where
  | len (t : TypeId) (a d : D)
  | ix (t : TypeId) (a i : D) (cs : List D)
  | cs (op : BinOp) (a b : D) (r : Bool)
  | ext (g : Nat) (a b d : D)
  | neg (a d : D)
def strI (op : BinOp) (s t : ByteArray) : Option Bool :=
  match op with
  | .lss => some (Op.bytesLess s.toList t.toList)
  | .gtr => some (!(Op.bytesLess s.toList t.toList || s.toList == t.toList))
  | _ => none
section
variable [Sig] {P : Program}
def Gact.ok (P : Program) : Gact → Prop
  | .len t a d => ∃ n : Nat, plain d = .int .i64 n ∧ (((∃ e, P.underlying t = some (.slice e)) ∧ ((plain a = .nil ∧ n = 0) ∨ ∃ l, plain a = .lst l ∧ n = l.length)) ∨ (P.underlying t = some .string ∧ ∃ s, plain a = .str s ∧ n = s.size))
  | .ix t a i es => ∃ k n l x e, plain a = .lst l ∧ plain i = .int k n ∧ 0 ≤ n ∧ l[n.toNat]? = some x ∧ P.underlying t = some (.slice e) ∧ sizeT P e = some x.cells.length ∧ 0 < x.cells.length ∧ es.length = x.cells.length ∧
      ∀ (j : Nat) c y, es[j]? = some c → x.cells[j]? = some y → c = y ∨ ∃ m, c = .sym m ∧ Sig.σ m = y
  | .cs op a b r => ∃ s t, plain a = .str s ∧ plain b = .str t ∧ strI op s t = some r
  | .ext g a b d => ∃ fn s t, P.funcs[g]? = some fn ∧ fn.body = none ∧ (fn.name == "runtime.NumGoroutine") = false ∧ Extern.findNext fn = none ∧ Extern.find fn = some Extern.BytealgCompare.compare ∧
      plain a = .str s ∧ plain b = .str t ∧ plain d = .int .i64 (Lib.compareBytes s.data.toList t.data.toList)
  | .neg a d => ∃ k n, plain a = .int k n ∧ plain d = .int k (k.wrap (-n))
theorem orc_len {c : Call} {t : TypeId} {x : Operand} {a d : D} (hcal : c.callee = .builtin .len) (hargs : c.args.toList = [x]) (htys : c.argTypes.toList = [t]) (hf : (Gact.len t a d).ok P) : OrcHolds P (.call c) [a] d := by
  intro F _ ρ o ho hR
  obtain ⟨n, hd, h⟩ := hf
  have hops : (Op.call c).operands.toList = [x] := by simp [Op.operands, Call.operands, hcal, hargs]
  have h1 := plain_rep (hR 0 x a (by rw [hops]; rfl) rfl)
  have hca : c.args = #[x] := by apply Array.ext'; simpa using hargs
  have hct : c.argTypes = #[t] := by apply Array.ext'; simpa using htys
  refine ⟨.int .i64 n, ?_, rep_plain_int hd⟩
  simp only [execOp, ho, resolve, hcal, hca, hct]
  rcases h with ⟨⟨e, he⟩, h⟩ | ⟨hs, s, ha, rfl⟩
  · rcases h with ⟨ha, rfl⟩ | ⟨l, ha, rfl⟩
    · rw [ha] at h1
      generalize hv : ρ x = v at h1
      cases h1
      simp [hv, pureSem_bind, invoke, builtin, Builtin.len_, pureSem_underlying P t he, goInt]
    · rw [ha] at h1
      generalize hv : ρ x = v at h1
      cases h1
      simp [hv, pureSem_bind, invoke, builtin, Builtin.len_, pureSem_underlying P t he, goInt]
  · rw [ha] at h1
    generalize hv : ρ x = v at h1
    cases h1
    simp [hv, pureSem_bind, invoke, builtin, Builtin.len_, pureSem_underlying P t hs, goInt]
end
end Go.Proofs.YtjofhegodknmaaaGreat.V
namespace Go.Proofs.YtjofhegodknmaaaGreat.V
open Go Go.RowKit
def resL : List U → U
  | [u] => u
  | l => .tup l
theorem resL_tup {l : List U} (h : l.length ≠ 1) : resL l = .tup l := by
  unfold resL
  split
  · simp at h
  · rfl
section
variable [Sig] {P : Program}
theorem CallHolds.of_run {f : Nat} {fn : Func} {c : Code} (hfn : P.funcs[f]? = some fn) (hc : fn.body = some c) {us : List U} {st : Store} {nx : Nat} {s' : St} {x : X}
    (h : Run P c ⟨us ++ List.replicate (fn.ntmps - us.length) .undef, st, nx⟩ x s') (hx : x = .normal ∨ x = .ret) {rs : List U} (hres : fn.results.toList.mapM (resU P (getO s'.st) s'.tm) = some rs) :
    CallHolds P f us st nx (resL rs) s'.st := by
  refine ⟨⟨fn, c, hfn, hc⟩, fun w F L b0 vs hS hA hf hb => calls_of_wp hfn hc ?_⟩
  have hT : TR F L (us ++ List.replicate (fn.ntmps - us.length) U.undef) (vs.toArray ++ Array.replicate (fn.ntmps - vs.toArray.size) Go.undef) := by
    have hl := hA.1
    refine ⟨by simp [hl], fun t u' hu => ?_⟩
    by_cases ht : t < us.length
    · rw [List.getElem?_append_left ht] at hu
      have ht' : t < vs.length := by omega
      exact ⟨vs[t], by simp [Array.getElem?_append, ht'], hA.2 t u' _ hu (List.getElem?_eq_getElem ht')⟩
    · rw [List.getElem?_append_right (by omega)] at hu
      rw [List.getElem?_replicate] at hu
      split at hu
      · rename_i hlt
        obtain rfl := Option.some.inj hu
        have : ¬ t < vs.length := by omega
        have hlt' : t - vs.length < fn.ntmps - vs.length := by omega
        exact ⟨Go.undef, by simp [Array.getElem?_append, this, Array.getElem?_replicate, hlt'], .undef⟩
      · simp at hu
  refine Code.wp_mono (fun e a' w' hp => ?_) (h.wp w F L b0 _ hS hT rfl hf hb)
  obtain ⟨rfl, hd, F', L', hE, hS', hT'⟩ := hp
  obtain ⟨vs', hargs, hrun⟩ := results_ok hS' hT' hres
  have fin : ∃ v, (results fn a'.tmps).run P w' = .ok v w' ∧ CallPost w F L b0 (getO s'.st) (resL rs) (.returned v) w' := by
    refine ⟨_, hrun, _, F', L', rfl, hE, hS', ?_⟩
    by_cases h1 : rs.length = 1
    · obtain ⟨u', rfl⟩ := List.length_eq_one_iff.1 h1
      have hl := hargs.1
      simp at hl
      obtain ⟨v, rfl⟩ := List.length_eq_one_iff.1 hl
      simp only [List.size_toArray, List.length_cons, List.length_nil, Nat.zero_add, dite_true]
      exact hargs.2 0 u' v rfl rfl
    · have hl := hargs.1
      have h2 : ¬ vs'.toArray.size = 1 := by
        simp only [List.size_toArray]
        omega
      rw [dif_neg h2, resL_tup h1]
      exact .tup _ _ hl hargs.2
  rcases hx with rfl | rfl
  · exact ⟨hd, fin⟩
  · exact ⟨hd, fin⟩
end
def opAt (ops : Array Oper) (i : Nat) : Oper := (ops[i]?).getD default
section
variable {P : Program} {an : An} {ops : Array Oper} {base : Nat}
theorem oper_step {k id : Nat} {o : Oper} {tm : List U} {g : Nat → Option Obj} {nx : Nat} {r : Res} (ho : orcU an tm o = none) (h : opStep P g id tm o = some r) : oper P an (k + 1) id o tm g nx = some ⟨r, nx, false⟩ := by
  simp only [oper, ho, h]
end
section
variable {P : Program} {g : Nat → Option Obj} {id : Nat} {tm : List U} {o : Oper}
def F0 : Mem := fun _ => none
theorem opPure_bin [Sig] {op : BinOp} {x y : Operand} {t w : TypeId} {k j : IntKind} {m n : Int} {d : D} (ho : o.op = .binOp op t x y w) (hx : evalU tm x = some (.dat (.int k m))) (hy : evalU tm y = some (.dat (.int j n)))
    (h : OrcHolds P (.binOp op t x y w) [.int k m, .int j n] d) (hd : ∀ v, Rep F0 d v → constD v = some d) : opPure P tm o = some ⟨.dat d, [], []⟩ := by
  unfold opPure
  have hops : o.op.operands.toList = [x, y] := by rw [ho]; rfl
  rw [hops]
  have e1 : (evalU tm x).bind valU = some (.int k m) := by rw [hx]; rfl
  have e2 : (evalU tm y).bind valU = some (.int j n) := by rw [hy]; rfl
  simp only [List.all_cons, List.all_nil, e1, e2, Option.isSome_some, Bool.and_self, if_true, Bool.and_true]
  obtain ⟨v, hv, hr⟩ := h F0 (fun _ _ h => by simp [F0] at h) (fun x => ((evalU tm x).bind valU).getD undef) o ho (fun i z e hz he => by
    have h2 : (Op.binOp op t x y w).operands.toList = [x, y] := rfl
    rw [h2] at hz
    match i with
    | 0 => simp at hz he; subst hz; subst he; rw [e1]; exact .int _ _
    | 1 => simp at hz he; subst hz; subst he; rw [e2]; exact .int _ _
    | i + 2 => simp at hz)
  rw [ho]
  simp only [hv, hd v hr, Option.map_some]
theorem const_bool [Sig] {b : Bool} : ∀ v, Rep F0 (.bool b) v → constD v = some (.bool b) := by
  intro v h
  cases h
  rfl
theorem const_int [Sig] {k : IntKind} {n : Int} : ∀ v, Rep F0 (.int k n) v → constD v = some (.int k n) := by
  intro v h
  cases h
  rfl
end
theorem toD_dats {g : Nat → Option Obj} {k : Nat} : ∀ l : List D, (l.map U.dat).mapM (toD g (k + 1)) = some (l.map fun d => (d, []))
  | [] => rfl
  | d :: r => by
    rw [List.map_cons, List.mapM_cons, toD_dats r]
    rfl
section
variable [Sig] {P : Program} {an : An}
theorem Run.skip (hN : Good P an) (hR : RegsP P) (hm : P.follows .mixedOrders = true) {s : St} : Run P .skip s .normal s := Run.of_exec hN hR hm (k := 1) (by simp [Regs]) (by simp [exec])
theorem Run.exit (hN : Good P an) (hR : RegsP P) (hm : P.follows .mixedOrders = true) {s : St} {id : Nat} : Run P (.exit id) s (.exit id) s := Run.of_exec hN hR hm (k := 1) (by simp [Regs]) (by simp [exec])
theorem Run.ret (hN : Good P an) (hR : RegsP P) (hm : P.follows .mixedOrders = true) {s : St} : Run P .ret s .ret s := Run.of_exec hN hR hm (k := 1) (by simp [Regs]) (by simp [exec])
end
end Go.Proofs.YtjofhegodknmaaaGreat.V
namespace Go.Proofs.YtjofhegodknmaaaGreat.V
open Go Go.RowKit
end Go.Proofs.YtjofhegodknmaaaGreat.V
namespace Go.Proofs.YtjofhegodknmaaaGreat.V
open Go Go.RowKit
inductive Steps (P : Program) (an : An) (ops : Array Oper) (base : Nat) : Nat → St → St → Prop
  | done {i : Nat} {s s' : St} (hi : ops.size = i) (e : s = s') : Steps P an ops base i s s'
  | step {i : Nat} {s s' : St} {r : CallRes} (hi : Nat.ble (i + 1) ops.size = true) (hw : wantedU ops s.tm (opAt ops i) = some true) (h : ∀ k, oper P an (k + 3) (base + 8 * i) (opAt ops i) s.tm (getO s.st) s.nx = some r)
      (t : Steps P an ops base (i + 1) ⟨put s.tm (opAt ops i).dst r.res.u, setAll s.st r.res.up, r.nx⟩ s') : Steps P an ops base i s s'
  | skip {i : Nat} {s s' : St} (hi : Nat.ble (i + 1) ops.size = true) (hw : wantedU ops s.tm (opAt ops i) = some false)
      (t : Steps P an ops base (i + 1) ⟨put s.tm (opAt ops i).dst .undef, s.st, s.nx⟩ s') : Steps P an ops base i s s'
section
variable {P : Program} {an : An} {ops : Array Oper} {base : Nat}
theorem drop_at {i : Nat} (hi : Nat.ble (i + 1) ops.size = true) : ops.toList.drop i = opAt ops i :: ops.toList.drop (i + 1) := by
  have h : i < ops.size := by have := Nat.le_of_ble_eq_true hi; omega
  have h' : i < ops.toList.length := by simpa using h
  rw [List.drop_eq_getElem_cons h']
  congr 1
  simp [opAt, h]
theorem Steps.opers {i : Nat} {s s' : St} (h : Steps P an ops base i s s') : ∀ (m : Nat) (rs : List (Option CallRes)), ops.size ≤ i + m → ∃ rs', opers P an (m + 4) ops base (ops.toList.drop i) i s rs = some (s', rs') := by
  induction h with
  | done hi e =>
    intro m rs hm
    subst e
    rw [List.drop_eq_nil_of_le (by simp [hi])]
    exact ⟨rs, by simp [V.opers]⟩
  | @step i s s' r hi hw h t ih =>
    intro m rs hm
    have hlt := Nat.le_of_ble_eq_true hi
    cases m with
    | zero => omega
    | succ m =>
      obtain ⟨rs', e⟩ := ih m (rs ++ [some r]) (by omega)
      refine ⟨rs', ?_⟩
      rw [drop_at hi]
      show V.opers P an (m + 4 + 1) _ _ _ _ _ _ = _
      simp only [V.opers, hw, forceN_eq]
      have hm4 : m + 4 = (m + 1) + 3 := by omega
      rw [hm4, h (m + 1), ← hm4]
      simp only [forceCR_eq, forceT_eq, putK_eq, storeK_eq]
      exact e
  | @skip i s s' hi hw t ih =>
    intro m rs hm
    have hlt := Nat.le_of_ble_eq_true hi
    cases m with
    | zero => omega
    | succ m =>
      obtain ⟨rs', e⟩ := ih m (rs ++ [none]) (by omega)
      refine ⟨rs', ?_⟩
      rw [drop_at hi]
      show V.opers P an (m + 4 + 1) _ _ _ _ _ _ = _
      simp only [V.opers, hw, putK_eq]
      exact e
theorem Steps.op {i : Nat} {s s' : St} {r : Res} (hi : Nat.ble (i + 1) ops.size = true) (hw : wantedU ops s.tm (opAt ops i) = some true) (ho : orcU an s.tm (opAt ops i) = none)
    (h : opStep P (getO s.st) (base + 8 * i) s.tm (opAt ops i) = some r) (t : Steps P an ops base (i + 1) ⟨put s.tm (opAt ops i).dst r.u, setAll s.st r.up, s.nx⟩ s') : Steps P an ops base i s s' :=
  .step hi hw (fun k => oper_step ho h) t
variable [Sig]
end
section
variable {P : Program} {g : Nat → Option Obj} {id : Nat} {tm : List U} {o : Oper}
def infoB (P : Program) (e : TypeId) : Option (Nat × Nat) := (P.info? e).map fun i => (i.size, i.bytes)
structure ByteT (P : Program) (t e : TypeId) : Prop where
  und : P.underlying t = some (.slice e)
  info : infoB P e = some (1, 1)
  agg : aggT P e = some false
  zero : zeroT P e = some [.int .u8 0]
theorem ByteT.size {t e : TypeId} (h : ByteT P t e) : sizeT P e = some 1 := by
  have := h.info
  unfold infoB at this
  unfold sizeT
  cases hi : P.info? e with
  | none => rw [hi] at this; simp at this
  | some i => rw [hi] at this; simp at this; simp [this.1]
end
theorem refsL_dats : ∀ l : List D, refsL (l.map .dat) = []
  | [] => rfl
  | d :: r => by simp only [List.map_cons, refsL, refs, refsL_dats r, List.append_nil]
theorem refsL_app : ∀ a b : List U, refsL (a ++ b) = refsL a ++ refsL b
  | [], b => rfl
  | u :: r, b => by simp only [List.cons_append, refsL, refsL_app r b, List.append_assoc]
section
variable [Sig] {P : Program} {an : An}
end
end Go.Proofs.YtjofhegodknmaaaGreat.V
namespace Go.Proofs.YtjofhegodknmaaaGreat.V
open Go Go.RowKit
structure RowT (P : Program) (t e : TypeId) (s b : Nat) (a : Bool) : Prop where
  und : P.underlying t = some (.slice e)
  info : infoB P e = some (s, b)
  agg : aggT P e = some a
  zero : (zeroT P e).map List.length = some s
  pos : 0 < s
  bpos : 0 < b
section
variable {P : Program} {g : Nat → Option Obj} {id : Nat}
theorem RowT.inf {t e : TypeId} {s b : Nat} {a : Bool} (h : RowT P t e s b a) : ∃ i, P.info? e = some i ∧ i.size = s ∧ i.bytes = b := by
  have := h.info
  unfold infoB at this
  obtain ⟨i, h1, h2⟩ := Option.map_eq_some_iff.1 this
  simp only [Prod.mk.injEq] at h2
  exact ⟨i, h1, h2.1, h2.2⟩
theorem RowT.size {t e : TypeId} {s b : Nat} {a : Bool} (h : RowT P t e s b a) : sizeT P e = some s := by
  obtain ⟨i, h1, h2, _⟩ := h.inf
  simp [sizeT, h1, h2]
end
structure Kept (g : Nat → Option Obj) (ids : List Nat) (p : Nat × Obj) : Prop where
  get : g p.1 = some p.2
  refs : (refsL p.2.cells).all (fun x => ids.contains x) = true
def AllKept (g : Nat → Option Obj) (ids : List Nat) (l : Store) : Prop := ∀ p ∈ l, Kept g ids p
theorem AllKept.nil {g : Nat → Option Obj} {ids : List Nat} : AllKept g ids [] := fun _ h => absurd h (by simp)
theorem AllKept.cons {g : Nat → Option Obj} {ids : List Nat} {o : Nat} {ob : Obj} {l : Store} (h1 : g o = some ob) (h2 : (refsL ob.cells).all (fun x => ids.contains x) = true) (h : AllKept g ids l) : AllKept g ids ((o, ob) :: l) := by
  intro p hp
  rcases List.mem_cons.1 hp with rfl | hp
  · exact ⟨h1, h2⟩
  · exact h p hp
section
variable [Sig] {P : Program} {an : An}
end
end Go.Proofs.YtjofhegodknmaaaGreat.V
namespace Go.Proofs.YtjofhegodknmaaaGreat.V
open Go Go.RowKit
def callAt (o : Oper) : Option (Operand × List Operand) :=
  match o.op with
  | .call c => match c.callee with
    | .value f => some (f, c.args.toList)
    | _ => none
  | _ => none
section
variable {P : Program} {an : An}
end
end Go.Proofs.YtjofhegodknmaaaGreat.V
namespace Go.Proofs.YtjofhegodknmaaaGreat.V
open Go Go.RowKit
inductive StepsT (P : Program) (an : An) (ops : Array Oper) (base : Nat) : Nat → St → St → List (Option CallRes) → Prop
  | done {i : Nat} {s s' : St} (hi : ops.size = i) (e : s = s') : StepsT P an ops base i s s' []
  | step {i : Nat} {s s' : St} {r : CallRes} {rs : List (Option CallRes)} (hi : Nat.ble (i + 1) ops.size = true) (hw : wantedU ops s.tm (opAt ops i) = some true) (h : ∀ k, oper P an (k + 3) (base + 8 * i) (opAt ops i) s.tm (getO s.st) s.nx = some r)
      (t : StepsT P an ops base (i + 1) ⟨put s.tm (opAt ops i).dst r.res.u, setAll s.st r.res.up, r.nx⟩ s' rs) : StepsT P an ops base i s s' (some r :: rs)
  | skip {i : Nat} {s s' : St} {rs : List (Option CallRes)} (hi : Nat.ble (i + 1) ops.size = true) (hw : wantedU ops s.tm (opAt ops i) = some false)
      (t : StepsT P an ops base (i + 1) ⟨put s.tm (opAt ops i).dst .undef, s.st, s.nx⟩ s' rs) : StepsT P an ops base i s s' (none :: rs)
def isBody (P : Program) (f : Nat) : Bool :=
  match P.funcs[f]? with
  | some fn => fn.body.isSome
  | none => false
theorem step_call {P : Program} {g : Nat → Option Obj} {id n : Nat} {tm caps : List U} {o : Oper} {fo : Operand} {xs : List Operand} (hc : callAt o = some (fo, xs)) (hf : (evalU tm fo).bind targetU = some (n, caps)) (hb : isBody P n = true) : opStep P g id tm o = none := by
  obtain ⟨c, e1, e2, e3⟩ : ∃ c, o.op = .call c ∧ c.callee = .value fo ∧ c.args.toList = xs := by
    unfold callAt at hc
    split at hc
    · rename_i c e
      split at hc
      · rename_i f e2
        simp only [Option.some.injEq, Prod.mk.injEq] at hc
        obtain ⟨rfl, rfl⟩ := hc
        exact ⟨c, e, e2, rfl⟩
      · simp at hc
    · simp at hc
  have hp : opPure P tm o = none := by
    obtain ⟨u, hu, ht⟩ := Option.bind_eq_some_iff.1 hf
    unfold isBody at hb
    split at hb
    · rename_i fn hfn
      unfold opPure
      split
      · rename_i hall
        have hmem : fo ∈ o.op.operands.toList := by rw [e1]; simp [Op.operands, Call.operands, e2]
        have hv := List.all_eq_true.1 hall fo hmem
        have hval : valU u = some (.func (.func n) #[] #[]) := by
          rw [hu] at hv
          simp only [Option.bind_some] at hv
          cases u with
          | dat d =>
            cases d with
            | fn f cs =>
              simp only [targetU, Option.some.injEq, Prod.mk.injEq] at ht
              obtain ⟨rfl, _⟩ := ht
              cases cs with
              | nil => rfl
              | cons a r => simp [valU, valD, val1] at hv
            | _ => simp [targetU] at ht
          | fn f cs => simp [valU] at hv
          | _ => simp [targetU] at ht
        have hq : ∃ m, pureSem P (execOp (fun x => ((evalU tm x).bind valU).getD undef) o) = some m ∧ ∀ v, m ≠ .value v := by
          have hf' : ((evalU tm fo).bind valU).getD undef = .func (.func n) #[] #[] := by rw [hu]; simp [hval]
          have hbn : ¬ fn.body = none := by intro e; rw [e] at hb; simp at hb
          simp only [execOp, e1, resolve, e2, hf', Deferred.ofValue]
          by_cases hn : (fn.name == "runtime.NumGoroutine") = true
          · refine ⟨.numGoroutine, ?_, fun v => by simp⟩
            have hn' : fn.name = "runtime.NumGoroutine" := by simpa using hn
            simp [pureSem_bind, invoke, callFunc, program, pureSem, hfn, hn']
          · refine ⟨.enter n ((c.args.map fun x => ((evalU tm x).bind valU).getD undef)), ?_, fun v => by simp⟩
            have hn' : ¬ fn.name = "runtime.NumGoroutine" := by simpa using hn
            simp [pureSem_bind, invoke, callFunc, program, pureSem, hfn, hn', hbn]
        obtain ⟨m, h1, h2⟩ := hq
        rw [h1, e1]
        simp only
        split
        · rename_i v hv; exact absurd (Option.some.inj hv) (h2 v)
        · rfl
      · rfl
    · simp at hb
  unfold opStep
  rw [e1]
  simp only [e2, hp]
section
variable {P : Program} {an : An} {ops : Array Oper} {base : Nat}
theorem StepsT.opers {i : Nat} {s s' : St} {rs' : List (Option CallRes)} (h : StepsT P an ops base i s s' rs') : ∀ (m : Nat) (rs : List (Option CallRes)), ops.size ≤ i + m → opers P an (m + 4) ops base (ops.toList.drop i) i s rs = some (s', rs ++ rs') := by
  induction h with
  | done hi e =>
    intro m rs hm
    subst e
    rw [List.drop_eq_nil_of_le (by simp [hi])]
    simp [V.opers]
  | @step i s s' r rs' hi hw h t ih =>
    intro m rs hm
    have hlt := Nat.le_of_ble_eq_true hi
    cases m with
    | zero => omega
    | succ m =>
      have e := ih m (rs ++ [some r]) (by omega)
      rw [drop_at hi]
      show V.opers P an (m + 4 + 1) _ _ _ _ _ _ = _
      simp only [V.opers, hw, forceN_eq]
      have hm4 : m + 4 = (m + 1) + 3 := by omega
      rw [hm4, h (m + 1), ← hm4]
      simp only [forceCR_eq, forceT_eq, putK_eq, storeK_eq]
      rw [e, List.append_assoc]
      rfl
  | @skip i s s' rs' hi hw t ih =>
    intro m rs hm
    have hlt := Nat.le_of_ble_eq_true hi
    cases m with
    | zero => omega
    | succ m =>
      have e := ih m (rs ++ [none]) (by omega)
      rw [drop_at hi]
      show V.opers P an (m + 4 + 1) _ _ _ _ _ _ = _
      simp only [V.opers, hw, putK_eq]
      rw [e, List.append_assoc]
      rfl
theorem StepsT.op {i : Nat} {s s' : St} {r : Res} {rs : List (Option CallRes)} (hi : Nat.ble (i + 1) ops.size = true) (hw : wantedU ops s.tm (opAt ops i) = some true) (ho : orcU an s.tm (opAt ops i) = none)
    (h : opStep P (getO s.st) (base + 8 * i) s.tm (opAt ops i) = some r) (t : StepsT P an ops base (i + 1) ⟨put s.tm (opAt ops i).dst r.u, setAll s.st r.up, s.nx⟩ s' rs) : StepsT P an ops base i s s' (some ⟨r, s.nx, false⟩ :: rs) :=
  .step hi hw (fun k => oper_step ho h) t
theorem oper_spec {k id n nx : Nat} {o : Oper} {tm us caps : List U} {g : Nat → Option Obj} {fo : Operand} {xs : List Operand} {ds : List (D × List Nat)} {rs : List D} (ho : orcU an tm o = none) (hs : opStep P g id tm o = none) (hc : callAt o = some (fo, xs))
    (hf : (evalU tm fo).bind targetU = some (n, caps)) (ha : xs.mapM (evalU tm) = some us) (hp : ((us ++ caps).any isPtr || an.io n || an.ior n) = false) (hd : (us ++ caps).mapM (toD g 40) = some ds) (hsp : an.spec n (ds.map (·.1)) = some rs) :
    oper P an (k + 3) id o tm g nx = some ⟨⟨resD rs, ds.flatMap (·.2), snapAll g (ds.flatMap (·.2))⟩, nx, false⟩ := by
  obtain ⟨c, e1, e2, e3⟩ : ∃ c, o.op = .call c ∧ c.callee = .value fo ∧ c.args.toList = xs := by
    unfold callAt at hc
    split at hc
    · rename_i c e
      split at hc
      · rename_i f e2
        simp only [Option.some.injEq, Prod.mk.injEq] at hc
        obtain ⟨rfl, rfl⟩ := hc
        exact ⟨c, e, e2, rfl⟩
      · simp at hc
    · simp at hc
  have hdc : docall P an (k + 2) id n (us ++ caps) g nx = some ⟨⟨resD rs, ds.flatMap (·.2), snapAll g (ds.flatMap (·.2))⟩, nx, false⟩ := by
    show docall P an ((k + 1) + 1) _ _ _ _ _ = _
    simp only [docall, hp, Bool.false_eq_true, if_false, hd, forceDN_eq, hsp]
  show oper P an ((k + 2) + 1) _ _ _ _ _ = _
  simp only [oper, ho, hs, e1, e2, hf, e3, ha, hdc]
end
section
variable [Sig] {P : Program} {an : An}
theorem Run.of_stepsT (hN : Good P an) (hR : RegsP P) (hm : P.follows .mixedOrders = true) {id : Nat} {ops : Array Oper} {draw : Bool} {s s' : St} {rs : List (Option CallRes)} (hg : Regs (.region id ops draw)) (h : StepsT P an ops s.nx 0 ⟨s.tm, s.st, s.nx + 8 * ops.size⟩ s' rs) (hr : (!draw || regionOk ops rs) = true) :
    Run P (.region id ops draw) s .normal s' := by
  have e := h.opers ops.size [] (by omega)
  refine Run.of_exec hN hR hm (k := ops.size + 5) hg ?_
  show exec P an ((ops.size + 4) + 1) _ _ = _
  simp only [exec, forceN_eq]
  rw [List.drop_zero, List.nil_append] at e
  rw [e]
  simp only [hr, if_true]
end
structure Els (s : Nat) (a : Bool) (css : List (List D)) : Prop where
  len : ∀ c ∈ css, c.length = s
  one : ∀ c ∈ css, ∀ d ∈ c, d.one = true
  fin : a = true ∨ s = 1
theorem asDats : ∀ l : List D, (l.map U.dat).mapM asDat = some l
  | [] => rfl
  | d :: r => by
    rw [List.map_cons, List.mapM_cons, asDats r]
    rfl
section
variable {P : Program} {g : Nat → Option Obj} {t e : TypeId} {s b : Nat} {a : Bool} {css : List (List D)} {o' gn i : Nat}
theorem Els.set {i : Nat} {c : List D} (he : Els s a css) (hc : c.length = s) (ho : ∀ d ∈ c, d.one = true) : Els s a (css.set i c) := by
  refine ⟨fun x hx => ?_, fun x hx => ?_, he.fin⟩
  · rcases List.mem_or_eq_of_mem_set hx with h | rfl
    · exact he.len x h
    · exact hc
  · rcases List.mem_or_eq_of_mem_set hx with h | rfl
    · exact he.one x h
    · exact ho
end
end Go.Proofs.YtjofhegodknmaaaGreat.V
