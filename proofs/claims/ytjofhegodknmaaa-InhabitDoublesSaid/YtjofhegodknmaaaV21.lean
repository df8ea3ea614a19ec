/- V, 21: names, and what stands in their place. -/
import Derived.Test.YtjofhegodknmaaaV20
set_option linter.unusedSimpArgs false
set_option linter.unusedVariables false
namespace Go.Proofs.Ytjofhegodknmaaa.V
open Go Go.RowKit

mutual
def inD (σ : Nat → D) : D → D
  | .sym i => σ i
  | .lst l => .lst (inDs σ l)
  | .agg l => .agg (inDs σ l)
  | .fp l => .fp (inDs σ l)
  | .fn f l => .fn f (inDs σ l)
  | .int k n => .int k n
  | .bool b => .bool b
  | .str s => .str s
  | .nil => .nil
  | .nul k => .nul k
def inDs (σ : Nat → D) : List D → List D
  | [] => []
  | d :: r => inD σ d :: inDs σ r
def noSym : D → Bool
  | .sym _ => false
  | .lst l => noSyms l
  | .agg l => noSyms l
  | .fp l => noSyms l
  | .fn _ l => noSyms l
  | _ => true
def noSyms : List D → Bool
  | [] => true
  | d :: r => noSym d && noSyms r
end
theorem inDs_eq (σ : Nat → D) : ∀ l : List D, inDs σ l = l.map (inD σ)
  | [] => by simp only [inDs, List.map_nil]
  | d :: r => by simp only [inDs, List.map_cons, inDs_eq σ r]
theorem noSyms_mem : ∀ {l : List D}, noSyms l = true → ∀ {i : Nat} {d : D}, l[i]? = some d → noSym d = true
  | [], _, i, d, h => by simp at h
  | x :: r, hn, i, d, h => by
    simp only [noSyms, Bool.and_eq_true] at hn
    cases i with
    | zero => simp at h; subst h; exact hn.1
    | succ i => simp at h; exact noSyms_mem hn.2 h
/-- What stands for names is of one cell, and has none itself. -/
structure Plain (σ : Nat → D) : Prop where
  one : ∀ i, (σ i).one = true
  no : ∀ i, noSym (σ i) = true
mutual
theorem inD_no (σ : Nat → D) : ∀ d : D, noSym d = true → inD σ d = d
  | .sym _, h => by simp [noSym] at h
  | .lst l, h => by simp only [noSym] at h; simp only [inD, inDs_no σ l h]
  | .agg l, h => by simp only [noSym] at h; simp only [inD, inDs_no σ l h]
  | .fp l, h => by simp only [noSym] at h; simp only [inD, inDs_no σ l h]
  | .fn _ l, h => by simp only [noSym] at h; simp only [inD, inDs_no σ l h]
  | .int .., _ => by simp only [inD]
  | .bool _, _ => by simp only [inD]
  | .str _, _ => by simp only [inD]
  | .nil, _ => by simp only [inD]
  | .nul _, _ => by simp only [inD]
theorem inDs_no (σ : Nat → D) : ∀ l : List D, noSyms l = true → inDs σ l = l
  | [], _ => by simp only [inDs]
  | d :: r, h => by
    simp only [noSyms, Bool.and_eq_true] at h
    simp only [inDs, inD_no σ d h.1, inDs_no σ r h.2]
end
theorem inD_one {σ : Nat → D} (hσ : Plain σ) (d : D) : (inD σ d).one = d.one := by
  cases d <;> simp only [inD, D.one]
  exact hσ.one _
theorem inD_cells {σ : Nat → D} (hσ : Plain σ) (d : D) : (inD σ d).cells = d.cells.map (inD σ) := by
  cases d with
  | agg l => simp only [inD, D.cells, inDs_eq]
  | sym i =>
    have h1 := D.cells_one (hσ.one i)
    simp only [inD]
    rw [h1]
    simp only [D.cells, inD, List.map_cons, List.map_nil]
  | _ => simp only [inD, D.cells, List.map_cons, List.map_nil]
theorem noSym_cells {d : D} (h : noSym d = true) {j : Nat} {y : D} (hj : d.cells[j]? = some y) : noSym y = true := by
  cases d with
  | agg l => simp only [noSym] at h; exact noSyms_mem h hj
  | _ =>
    simp only [D.cells] at hj
    cases j with
    | zero => simp at hj; subst hj; exact h
    | succ j => simp at hj

abbrev sig0 : Sig := ⟨fun _ => .nil⟩
abbrev sigOf (σ : Nat → D) : Sig := ⟨σ⟩

/-- What has no names is so whatever they stand for. -/
theorem rep_any {s s' : Sig} {F : Mem} {d : D} {v : Value} (h : @Rep s F d v) : noSym d = true → @Rep s' F d v := by
  letI : Sig := s'
  induction h with
  | int k n => exact fun _ => .int k n
  | bool b => exact fun _ => .bool b
  | str s => exact fun _ => .str s
  | nil => exact fun _ => .nil
  | lst l a c sz val hc hsz ho h1 h2 ih =>
    intro hn
    exact .lst l a c sz val hc hsz ho h1 fun i x j y hx hy => ih i x j y hx hy (noSym_cells (noSyms_mem hn hx) hy)
  | agg cs vs hl ho h ih => intro hn; exact .agg cs vs hl ho fun i y v hy hv => ih i y v hy hv (noSyms_mem hn hy)
  | fp cs a val hs ho h1 h2 ih => intro hn; exact .fp cs a val hs ho h1 fun i y hy => ih i y hy (noSyms_mem hn hy)
  | fn f caps vs hl h ih => intro hn; exact .fn f caps vs hl fun i y v hy hv => ih i y v hy hv (noSyms_mem hn hy)
  | nul0 => exact fun _ => .nul0
  | nul1 => exact fun _ => .nul1
  | nul2 => exact fun _ => .nul2
  | nul3 => exact fun _ => .nul3
  | sym i v ho h ih => intro hn; simp [noSym] at hn

theorem get_inDs {σ : Nat → D} {l : List D} {i : Nat} {y : D} (h : (inDs σ l)[i]? = some y) : ∃ x, l[i]? = some x ∧ y = inD σ x := by
  rw [inDs_eq, List.getElem?_map] at h
  obtain ⟨x, hx, rfl⟩ := Option.map_eq_some_iff.1 h
  exact ⟨x, hx, rfl⟩
theorem rep_in {σ : Nat → D} (hσ : Plain σ) {F : Mem} {d : D} {v : Value} (h : @Rep (sigOf σ) F d v) : @Rep sig0 F (inD σ d) v := by
  letI : Sig := sig0
  induction h with
  | int k n => simp only [inD]; exact .int k n
  | bool b => simp only [inD]; exact .bool b
  | str s => simp only [inD]; exact .str s
  | nil => simp only [inD]; exact .nil
  | lst l a c sz val hc hsz ho h1 h2 ih =>
    simp only [inD]
    have hlen : (inDs σ l).length = l.length := by rw [inDs_eq, List.length_map]
    have cell : ∀ (i : Nat) (x : D) (j : Nat) (y : D), (inDs σ l)[i]? = some x → x.cells[j]? = some y → ∃ x' y', l[i]? = some x' ∧ x'.cells[j]? = some y' ∧ y = inD σ y' := by
      intro i x j y hx hy
      obtain ⟨x', hx', rfl⟩ := get_inDs hx
      rw [inD_cells hσ, List.getElem?_map] at hy
      obtain ⟨y', hy', rfl⟩ := Option.map_eq_some_iff.1 hy
      exact ⟨x', y', hx', hy', rfl⟩
    have key := @Rep.lst sig0 F (inDs σ l) a c sz val (by rw [hlen]; exact hc) (fun x hx => by
        obtain ⟨i, hi⟩ := List.getElem?_of_mem hx
        obtain ⟨x', hx', rfl⟩ := get_inDs hi
        rw [inD_cells hσ, List.length_map]
        exact hsz x' (List.mem_of_getElem? hx'))
      (fun i x j y hx hy => by obtain ⟨x', y', hx', hy', rfl⟩ := cell i x j y hx hy; rw [inD_one hσ]; exact ho i x' j y' hx' hy')
      (fun i x j y hx hy => by obtain ⟨x', y', hx', hy', rfl⟩ := cell i x j y hx hy; exact h1 i x' j y' hx' hy')
      (fun i x j y hx hy => by obtain ⟨x', y', hx', hy', rfl⟩ := cell i x j y hx hy; exact ih i x' j y' hx' hy')
    rw [hlen] at key
    exact key
  | agg cs vs hl ho h ih =>
    simp only [inD]
    refine .agg (inDs σ cs) vs (by rw [inDs_eq, List.length_map]; exact hl) (fun i y hy => ?_) (fun i y v hy hv => ?_)
    · obtain ⟨x, hx, rfl⟩ := get_inDs hy; rw [inD_one hσ]; exact ho i x hx
    · obtain ⟨x, hx, rfl⟩ := get_inDs hy; exact ih i x v hx hv
  | fp cs a val hs ho h1 h2 ih =>
    simp only [inD]
    refine .fp (inDs σ cs) a val hs (fun i y hy => ?_) (fun i y hy => ?_) (fun i y hy => ?_)
    · obtain ⟨x, hx, rfl⟩ := get_inDs hy; rw [inD_one hσ]; exact ho i x hx
    · obtain ⟨x, hx, rfl⟩ := get_inDs hy; exact h1 i x hx
    · obtain ⟨x, hx, rfl⟩ := get_inDs hy; exact ih i x hx
  | fn f caps vs hl h ih =>
    simp only [inD]
    refine .fn f (inDs σ caps) vs (by rw [inDs_eq, List.length_map]; exact hl) (fun i y v hy hv => ?_)
    obtain ⟨x, hx, rfl⟩ := get_inDs hy
    exact ih i x v hx hv
  | nul0 => simp only [inD]; exact .nul0
  | nul1 => simp only [inD]; exact .nul1
  | nul2 => simp only [inD]; exact .nul2
  | nul3 => simp only [inD]; exact .nul3
  | sym i v ho h ih =>
    have : inD σ (σ i) = σ i := inD_no σ _ (hσ.no i)
    simp only [inD]
    change Rep F (inD σ (σ i)) v at ih
    rw [this] at ih
    exact ih
theorem rep_out {σ : Nat → D} (hσ : Plain σ) {F : Mem} {e : D} {v : Value} (h : @Rep sig0 F e v) : ∀ d, inD σ d = e → @Rep (sigOf σ) F d v := by
  letI : Sig := sigOf σ
  have sy : ∀ i e v, σ i = e → @Rep sig0 F e v → @Rep (sigOf σ) F (.sym i) v := by
    intro i e v hi hr
    subst hi
    exact .sym i v (hσ.one i) (rep_any hr (hσ.no i))
  induction h with
  | int k n => intro d hd; cases d <;> simp only [inD, reduceCtorEq] at hd <;> first | exact sy _ _ _ hd (@Rep.int sig0 F k n) | (cases hd; exact .int k n)
  | bool b => intro d hd; cases d <;> simp only [inD, reduceCtorEq] at hd <;> first | exact sy _ _ _ hd (@Rep.bool sig0 F b) | (cases hd; exact .bool b)
  | str s => intro d hd; cases d <;> simp only [inD, reduceCtorEq] at hd <;> first | exact sy _ _ _ hd (@Rep.str sig0 F s) | (cases hd; exact .str s)
  | nil => intro d hd; cases d <;> simp only [inD, reduceCtorEq] at hd <;> first | exact sy _ _ _ hd (@Rep.nil sig0 F) | exact .nil
  | lst l a c sz val hc hsz ho h1 h2 ih =>
    intro d hd
    cases d <;> simp only [inD, reduceCtorEq] at hd
    case sym i => exact sy _ _ _ hd (@Rep.lst sig0 F l a c sz val hc hsz ho h1 h2)
    case lst m =>
      injection hd with hd
      subst hd
      have hlen : (inDs σ m).length = m.length := by rw [inDs_eq, List.length_map]
      have cell : ∀ (i : Nat) (x : D) (j : Nat) (y : D), m[i]? = some x → x.cells[j]? = some y → (inDs σ m)[i]? = some (inD σ x) ∧ (inD σ x).cells[j]? = some (inD σ y) := by
        intro i x j y hx hy
        refine ⟨by rw [inDs_eq, List.getElem?_map, hx]; rfl, by rw [inD_cells hσ, List.getElem?_map, hy]; rfl⟩
      have key := @Rep.lst (sigOf σ) F m a c sz val (by rw [← hlen]; exact hc) (fun x hx => by
          obtain ⟨i, hi⟩ := List.getElem?_of_mem hx
          have := hsz (inD σ x) (by rw [inDs_eq]; exact List.mem_map_of_mem hx)
          rw [inD_cells hσ, List.length_map] at this
          exact this)
        (fun i x j y hx hy => by obtain ⟨h3, h4⟩ := cell i x j y hx hy; have := ho i _ j _ h3 h4; rw [inD_one hσ] at this; exact this)
        (fun i x j y hx hy => by obtain ⟨h3, h4⟩ := cell i x j y hx hy; exact h1 i _ j _ h3 h4)
        (fun i x j y hx hy => by obtain ⟨h3, h4⟩ := cell i x j y hx hy; exact ih i _ j _ h3 h4 y rfl)
      rw [← hlen] at key
      exact key
  | agg cs vs hl ho h ih =>
    intro d hd
    cases d <;> simp only [inD, reduceCtorEq] at hd
    case sym i => exact sy _ _ _ hd (@Rep.agg sig0 F cs vs hl ho h)
    case agg m =>
      injection hd with hd
      subst hd
      have el : ∀ (i : Nat) (x : D), m[i]? = some x → (inDs σ m)[i]? = some (inD σ x) := fun i x hx => by rw [inDs_eq, List.getElem?_map, hx]; rfl
      refine .agg m vs (by rw [inDs_eq, List.length_map] at hl; exact hl) (fun i y hy => ?_) (fun i y v hy hv => ih i _ v (el i y hy) hv y rfl)
      have := ho i _ (el i y hy)
      rw [inD_one hσ] at this
      exact this
  | fp cs a val hs ho h1 h2 ih =>
    intro d hd
    cases d <;> simp only [inD, reduceCtorEq] at hd
    case sym i => exact sy _ _ _ hd (@Rep.fp sig0 F cs a val hs ho h1 h2)
    case fp m =>
      injection hd with hd
      subst hd
      have el : ∀ (i : Nat) (x : D), m[i]? = some x → (inDs σ m)[i]? = some (inD σ x) := fun i x hx => by rw [inDs_eq, List.getElem?_map, hx]; rfl
      refine .fp m a val hs (fun i y hy => ?_) (fun i y hy => h1 i _ (el i y hy)) (fun i y hy => ih i _ (el i y hy) y rfl)
      have := ho i _ (el i y hy)
      rw [inD_one hσ] at this
      exact this
  | fn f caps vs hl h ih =>
    intro d hd
    cases d <;> simp only [inD, reduceCtorEq] at hd
    case sym i => exact sy _ _ _ hd (@Rep.fn sig0 F f caps vs hl h)
    case fn g m =>
      injection hd with hd1 hd
      subst hd1
      subst hd
      exact .fn _ m vs (by rw [inDs_eq, List.length_map] at hl; exact hl) (fun i y v hy hv => ih i _ v (by rw [inDs_eq, List.getElem?_map, hy]; rfl) hv y rfl)
  | nul0 => intro d hd; cases d <;> simp only [inD, reduceCtorEq] at hd <;> first | exact sy _ _ _ hd (@Rep.nul0 sig0 F) | (cases hd; exact .nul0)
  | nul1 => intro d hd; cases d <;> simp only [inD, reduceCtorEq] at hd <;> first | exact sy _ _ _ hd (@Rep.nul1 sig0 F) | (cases hd; exact .nul1)
  | nul2 => intro d hd; cases d <;> simp only [inD, reduceCtorEq] at hd <;> first | exact sy _ _ _ hd (@Rep.nul2 sig0 F) | (cases hd; exact .nul2)
  | nul3 => intro d hd; cases d <;> simp only [inD, reduceCtorEq] at hd <;> first | exact sy _ _ _ hd (@Rep.nul3 sig0 F) | (cases hd; exact .nul3)
  | sym i v ho h ih =>
    intro d hd
    cases d <;> simp only [inD, reduceCtorEq] at hd
    case sym j => have := hσ.no j; rw [hd] at this; simp [noSym] at this

/-! The same of values of a call, objects and states. -/
mutual
def inU (σ : Nat → D) : U → U
  | .dat d => .dat (inD σ d)
  | .agg l => .agg (inUs σ l)
  | .tup l => .tup (inUs σ l)
  | .fn f l => .fn f (inUs σ l)
  | .ptr o g p => .ptr o g p
  | .own o g a n => .own o g a n
  | .undef => .undef
  | .junk => .junk
  | .map o g => .map o g
def inUs (σ : Nat → D) : List U → List U
  | [] => []
  | u :: r => inU σ u :: inUs σ r
end
theorem inUs_eq (σ : Nat → D) : ∀ l : List U, inUs σ l = l.map (inU σ)
  | [] => by simp only [inUs, List.map_nil]
  | d :: r => by simp only [inUs, List.map_cons, inUs_eq σ r]
theorem get_inUs {σ : Nat → D} {l : List U} {i : Nat} {y : U} (h : (inUs σ l)[i]? = some y) : ∃ x, l[i]? = some x ∧ y = inU σ x := by
  rw [inUs_eq, List.getElem?_map] at h
  obtain ⟨x, hx, rfl⟩ := Option.map_eq_some_iff.1 h
  exact ⟨x, hx, rfl⟩
theorem at_inUs {σ : Nat → D} {l : List U} {i : Nat} {x : U} (h : l[i]? = some x) : (inUs σ l)[i]? = some (inU σ x) := by
  rw [inUs_eq, List.getElem?_map, h]; rfl
theorem inU_one {σ : Nat → D} (hσ : Plain σ) (u : U) : (inU σ u).one = u.one := by
  cases u <;> simp only [inU, U.one]
  exact inD_one hσ _
theorem repU_in {σ : Nat → D} (hσ : Plain σ) {F : Mem} {L : Lay} {u : U} {v : Value} (h : @RepU (sigOf σ) F L u v) : @RepU sig0 F L (inU σ u) v := by
  letI : Sig := sig0
  induction h with
  | dat d v h => simp only [inU]; exact .dat _ v (rep_in hσ h)
  | ptr o p i h => simp only [inU]; exact .ptr o p i h
  | ptrOld o g p i a h hg => simp only [inU]; exact .ptrOld o g p i a h hg
  | own o off n c i h hn hc => simp only [inU]; exact .own o off n c i h hn hc
  | ownEnd o off i a h => simp only [inU]; exact .ownEnd o off i a h
  | ownOld o g off n i a c h hg => simp only [inU]; exact .ownOld o g off n i a c h hg
  | agg cs vs hl ho h ih =>
    simp only [inU]
    refine .agg _ vs (by rw [inUs_eq, List.length_map]; exact hl) (fun i u hu => ?_) (fun i u v hu hv => ?_)
    · obtain ⟨x, hx, rfl⟩ := get_inUs hu; rw [inU_one hσ]; exact ho i x hx
    · obtain ⟨x, hx, rfl⟩ := get_inUs hu; exact ih i x v hx hv
  | tup l vs hl h ih =>
    simp only [inU]
    refine .tup _ vs (by rw [inUs_eq, List.length_map]; exact hl) (fun i u v hu hv => ?_)
    obtain ⟨x, hx, rfl⟩ := get_inUs hu
    exact ih i x v hx hv
  | fn f caps vs hl h ih =>
    simp only [inU]
    refine .fn f _ vs (by rw [inUs_eq, List.length_map]; exact hl) (fun i u v hu hv => ?_)
    obtain ⟨x, hx, rfl⟩ := get_inUs hu
    exact ih i x v hx hv
  | undef => simp only [inU]; exact .undef
  | junk v => simp only [inU]; exact .junk v
  | map o i h => simp only [inU]; exact .map o i h
  | mapOld o g i r h hg => simp only [inU]; exact .mapOld o g i r h hg
theorem repU_out {σ : Nat → D} (hσ : Plain σ) {F : Mem} {L : Lay} {e : U} {v : Value} (h : @RepU sig0 F L e v) : ∀ u, inU σ u = e → @RepU (sigOf σ) F L u v := by
  letI : Sig := sigOf σ
  induction h with
  | dat d v h =>
    intro u hu
    cases u <;> simp only [inU, reduceCtorEq] at hu
    injection hu with hu
    exact .dat _ v (rep_out hσ h _ hu)
  | ptr o p i h => intro u hu; cases u <;> simp only [inU, reduceCtorEq] at hu; cases hu; exact .ptr o p i h
  | ptrOld o g p i a h hg => intro u hu; cases u <;> simp only [inU, reduceCtorEq] at hu; cases hu; exact .ptrOld o g p i a h hg
  | own o off n c i h hn hc => intro u hu; cases u <;> simp only [inU, reduceCtorEq] at hu; cases hu; exact .own o off n c i h hn hc
  | ownEnd o off i a h => intro u hu; cases u <;> simp only [inU, reduceCtorEq] at hu; cases hu; exact .ownEnd o off i a h
  | ownOld o g off n i a c h hg => intro u hu; cases u <;> simp only [inU, reduceCtorEq] at hu; cases hu; exact .ownOld o g off n i a c h hg
  | agg cs vs hl ho h ih =>
    intro u hu
    cases u <;> simp only [inU, reduceCtorEq] at hu
    injection hu with hu
    subst hu
    refine .agg _ vs (by rw [inUs_eq, List.length_map] at hl; exact hl) (fun i u hu => ?_) (fun i u v hu hv => ih i _ v (at_inUs hu) hv u rfl)
    have := ho i _ (at_inUs hu)
    rw [inU_one hσ] at this
    exact this
  | tup l vs hl h ih =>
    intro u hu
    cases u <;> simp only [inU, reduceCtorEq] at hu
    injection hu with hu
    subst hu
    exact .tup _ vs (by rw [inUs_eq, List.length_map] at hl; exact hl) (fun i u v hu hv => ih i _ v (at_inUs hu) hv u rfl)
  | fn f caps vs hl h ih =>
    intro u hu
    cases u <;> simp only [inU, reduceCtorEq] at hu
    injection hu with hu1 hu
    subst hu1
    subst hu
    exact .fn _ _ vs (by rw [inUs_eq, List.length_map] at hl; exact hl) (fun i u v hu hv => ih i _ v (at_inUs hu) hv u rfl)
  | undef => intro u hu; cases u <;> simp only [inU, reduceCtorEq] at hu; exact .undef
  | junk v => intro u hu; cases u <;> simp only [inU, reduceCtorEq] at hu; exact .junk v
  | map o i h => intro u hu; cases u <;> simp only [inU, reduceCtorEq] at hu; cases hu; exact .map o i h
  | mapOld o g i r h hg => intro u hu; cases u <;> simp only [inU, reduceCtorEq] at hu; cases hu; exact .mapOld o g i r h hg

def inO (σ : Nat → D) (ob : Obj) : Obj := { ob with cells := inUs σ ob.cells }
def inSt (σ : Nat → D) (s : Store) : Store := s.map fun p => (p.1, inO σ p.2)
def inS (σ : Nat → D) (s : St) : St := ⟨inUs σ s.tm, inSt σ s.st, s.nx⟩
theorem getO_in (σ : Nat → D) : ∀ (s : Store) (o : Nat), getO (inSt σ s) o = (getO s o).map (inO σ)
  | [], o => rfl
  | (o', e) :: r, o => by
    show getO ((o', inO σ e) :: inSt σ r) o = _
    simp only [getO]
    split
    · rfl
    · exact getO_in σ r o
theorem sr_in {σ : Nat → D} (hσ : Plain σ) {w : World} {F : Mem} {L : Lay} {b0 : Nat} {s : Store} (h : @SR (sigOf σ) w F L b0 (getO s)) : @SR sig0 w F L b0 (getO (inSt σ s)) := by
  letI : Sig := sigOf σ
  refine @SR.mk sig0 w F L b0 _ h.mem (fun o ho => ?_) (fun o ob ho => ?_) h.inj
  · rw [getO_in] at ho; exact h.non o (by simpa using ho)
  · rw [getO_in] at ho
    obtain ⟨ob', hob, rfl⟩ := Option.map_eq_some_iff.1 ho
    obtain ⟨i, arr, hL, r1, r2, r3, r4, hh, r5, hcs, hfr⟩ := h.obj o ob' hob
    have hlen : (inUs σ ob'.cells).length = ob'.cells.length := by rw [inUs_eq, List.length_map]
    refine ⟨i, arr, hL, r1, r2, r3, r4, hh.like rfl rfl (by simp only [inO]; exact hlen), by simp only [inO]; rw [hlen]; exact r5, fun j u hu => ?_, fun off hoff => hfr off ?_⟩
    · obtain ⟨x, hx, rfl⟩ := get_inUs hu
      obtain ⟨h1, v, hv, hr⟩ := hcs j x hx
      exact ⟨by rw [inU_one hσ]; exact h1, v, hv, repU_in hσ hr⟩
    · intro hsn
      have := hoff hsn
      simp only [inO] at this
      rw [hlen] at this
      exact this
theorem sr_out {σ : Nat → D} (hσ : Plain σ) {w : World} {F : Mem} {L : Lay} {b0 : Nat} {s : Store} (h : @SR sig0 w F L b0 (getO (inSt σ s))) : @SR (sigOf σ) w F L b0 (getO s) := by
  letI : Sig := sig0
  refine @SR.mk (sigOf σ) w F L b0 _ h.mem (fun o ho => h.non o (by rw [getO_in, ho]; rfl)) (fun o ob ho => ?_) h.inj
  obtain ⟨i, arr, hL, r1, r2, r3, r4, hh, r5, hcs, hfr⟩ := h.obj o (inO σ ob) (by rw [getO_in, ho]; rfl)
  have hlen : (inUs σ ob.cells).length = ob.cells.length := by rw [inUs_eq, List.length_map]
  refine ⟨i, arr, hL, r1, r2, r3, r4, hh.like rfl rfl (by simp only [inO]; exact hlen.symm), by simp only [inO] at r5; rw [hlen] at r5; exact r5, fun j u hu => ?_, fun off hoff => hfr off ?_⟩
  · obtain ⟨h1, v, hv, hr⟩ := hcs j _ (at_inUs hu)
    exact ⟨by rw [inU_one hσ] at h1; exact h1, v, hv, repU_out hσ hr u rfl⟩
  · intro hsn
    simp only [inO]
    rw [hlen]
    exact hoff hsn
theorem tr_in {σ : Nat → D} (hσ : Plain σ) {F : Mem} {L : Lay} {tm : List U} {a : Array Value} (h : @TR (sigOf σ) F L tm a) : @TR sig0 F L (inUs σ tm) a := by
  letI : Sig := sigOf σ
  refine ⟨by rw [inUs_eq, List.length_map]; exact h.1, fun t u hu => ?_⟩
  obtain ⟨x, hx, rfl⟩ := get_inUs hu
  obtain ⟨v, hv, hr⟩ := h.2 t x hx
  exact ⟨v, hv, repU_in hσ hr⟩
theorem tr_out {σ : Nat → D} (hσ : Plain σ) {F : Mem} {L : Lay} {tm : List U} {a : Array Value} (h : @TR sig0 F L (inUs σ tm) a) : @TR (sigOf σ) F L tm a := by
  letI : Sig := sig0
  refine ⟨by have := h.1; rw [inUs_eq, List.length_map] at this; exact this, fun t u hu => ?_⟩
  obtain ⟨v, hv, hr⟩ := h.2 t _ (at_inUs hu)
  exact ⟨v, hv, repU_out hσ hr u rfl⟩
theorem fresh_in {σ : Nat → D} {s : St} : Fresh (inS σ s) ↔ Fresh s := by
  unfold Fresh inS
  simp only [getO_in, Option.map_eq_none_iff]
/-- A run with names is one with what stands for them. -/
theorem Run.ins {σ : Nat → D} (hσ : Plain σ) {P : Program} {c : Code} {s : St} {x : X} {s' : St} (h : @Run (sigOf σ) P c s x s') : @Run sig0 P c (inS σ s) x (inS σ s') := by
  letI : Sig := sigOf σ
  refine @Run.mk sig0 P c _ x _ (fun hf => fresh_in.2 (h.fresh (fresh_in.1 hf))) (fun w F L b0 a hS hT hd hf hb => ?_)
  refine Code.wp_mono (fun e a' w' hp => ?_) (h.wp w F L b0 a (sr_out hσ hS) (tr_out hσ hT) hd (fresh_in.1 hf) hb)
  obtain ⟨rfl, hd', F', L', hE, hS', hT'⟩ := hp
  exact ⟨rfl, hd', F', L', hE, sr_in hσ hS', tr_in hσ hT'⟩
/-- So is what is known of a call. -/
theorem Holds.ins {σ : Nat → D} (hσ : Plain σ) {P : Program} {f : Nat} {ds rs : List D} (h : @Holds (sigOf σ) P f ds rs) : @Holds sig0 P f (inDs σ ds) (inDs σ rs) := by
  letI : Sig := sigOf σ
  refine @Holds.mk sig0 P f _ _ h.body (fun w F vs hF hA => ?_)
  have hA' : @Args (sigOf σ) F none0 (ds.map .dat) vs := by
    refine ⟨by rw [hA.1, inDs_eq, List.length_map, List.length_map, List.length_map], fun i u v hu hv => ?_⟩
    rw [List.getElem?_map] at hu
    obtain ⟨d, hd, rfl⟩ := Option.map_eq_some_iff.1 hu
    exact repU_out hσ (hA.2 i (.dat (inD σ d)) v (by rw [List.getElem?_map, inDs_eq, List.getElem?_map, hd]; rfl) hv) _ rfl
  refine Calls.mono (h.calls w F vs hF hA') fun e w' he => ?_
  obtain ⟨v, F', L', rfl, hE, hm, hr⟩ := he
  refine ⟨v, F', L', rfl, hE, hm, ?_⟩
  have := repU_in hσ hr
  have e : inU σ (resD rs) = resD (inDs σ rs) := by
    unfold resD
    cases rs with
    | nil => rfl
    | cons a r =>
      cases r with
      | nil => rfl
      | cons b r => simp only [inU, inDs, inUs_eq, inDs_eq, List.map_cons, List.map_map, Function.comp_def]
  rw [e] at this
  exact this
/-- What is known of a call, with names for parts of it. -/
theorem Holds.outs {σ : Nat → D} (hσ : Plain σ) {P : Program} {f : Nat} {ds rs : List D} (h : @Holds sig0 P f (inDs σ ds) (inDs σ rs)) : @Holds (sigOf σ) P f ds rs := by
  letI : Sig := sig0
  refine @Holds.mk (sigOf σ) P f _ _ h.body (fun w F vs hF hA => ?_)
  have hA' : @Args sig0 F none0 ((inDs σ ds).map .dat) vs := by
    refine ⟨by rw [hA.1, inDs_eq, List.length_map, List.length_map, List.length_map], fun i u v hu hv => ?_⟩
    rw [List.getElem?_map] at hu
    obtain ⟨d, hd, rfl⟩ := Option.map_eq_some_iff.1 hu
    obtain ⟨x, hx, rfl⟩ := get_inDs hd
    exact repU_in hσ (hA.2 i (.dat x) v (by rw [List.getElem?_map, hx]; rfl) hv)
  refine Calls.mono (h.calls w F vs hF hA') fun e w' he => ?_
  obtain ⟨v, F', L', rfl, hE, hm, hr⟩ := he
  refine ⟨v, F', L', rfl, hE, hm, ?_⟩
  have e : inU σ (resD rs) = resD (inDs σ rs) := by
    unfold resD
    cases rs with
    | nil => rfl
    | cons a r =>
      cases r with
      | nil => rfl
      | cons b r => simp only [inU, inDs, inUs_eq, inDs_eq, List.map_cons, List.map_map, Function.comp_def]
  exact repU_out hσ hr _ e

/-- What is known of a call of data without names. -/
theorem Holds.any {s : Sig} {P : Program} {f : Nat} {ds rs : List D} (h : @Holds sig0 P f ds rs) (h1 : noSyms ds = true) (h2 : noSyms rs = true) : @Holds s P f ds rs := by
  letI : Sig := sig0
  refine @Holds.mk s P f _ _ h.body (fun w F vs hF hA => ?_)
  have hA' : Args F none0 (ds.map .dat) vs := by
    refine ⟨@And.left _ _ hA, fun i u v hu hv => ?_⟩
    have := @And.right _ _ hA i u v hu hv
    rw [List.getElem?_map] at hu
    obtain ⟨d, hd, rfl⟩ := Option.map_eq_some_iff.1 hu
    cases this with
    | dat _ _ hr => exact .dat _ _ (rep_any hr (noSyms_mem h1 hd))
  refine Calls.mono (h.calls w F vs hF hA') fun e w' he => ?_
  obtain ⟨v, F', L', rfl, hE, hm, hr⟩ := he
  refine ⟨v, F', L', rfl, hE, hm, ?_⟩
  clear hE hm
  unfold resD at hr ⊢
  split at hr
  · rename_i d
    cases hr with
    | dat _ _ hr => exact @RepU.dat s _ _ _ _ (rep_any hr (by simpa [noSyms] using h2))
  · cases hr with
    | tup _ vals hl hR =>
      refine @RepU.tup s _ _ _ vals hl (fun i u v hu hv => ?_)
      have := hR i u v hu hv
      rw [List.getElem?_map] at hu
      obtain ⟨d, hd, rfl⟩ := Option.map_eq_some_iff.1 hu
      cases this with
      | dat _ _ hr => exact @RepU.dat s _ _ _ _ (rep_any hr (noSyms_mem h2 hd))
def tblNo (t : Tbl) : Bool := t.all fun e => e.2.all fun r => noSyms r.1 && noSyms r.2
theorem TblOk.any {s : Sig} {P : Program} {t : Tbl} (hn : tblNo t = true) (h : @TblOk sig0 P t) : @TblOk s P t := by
  intro e he r hr
  unfold tblNo at hn
  have h1 := List.all_eq_true.1 (List.all_eq_true.1 hn e he) r hr
  simp only [Bool.and_eq_true] at h1
  exact (h e he r hr).any h1.1 h1.2

end Go.Proofs.Ytjofhegodknmaaa.V
