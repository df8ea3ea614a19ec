/- V, 21: names, and what stands in their place. -/
import Derived.Test.YtjofhegodknmaaaV20
set_option linter.unusedSimpArgs false
set_option linter.unusedVariables false
namespace Go.Proofs.Ytjofhegodknmaaa.V
open Go Go.RowKit
mutual
def inD (σ : Nat → D) : D → D
  | .sym i => σ i
  | .lst l => .lst (inDs σ l)
  | .agg l => .agg (inDs σ l)
  | .fp l => .fp (inDs σ l)
  | .fn f l => .fn f (inDs σ l)
  | .int k n => .int k n
  | .bool b => .bool b
  | .str s => .str s
  | .nil => .nil
  | .nul k => .nul k
def inDs (σ : Nat → D) : List D → List D
  | [] => []
  | d :: r => inD σ d :: inDs σ r
def noSym : D → Bool
  | .sym _ => false
  | .lst l => noSyms l
  | .agg l => noSyms l
  | .fp l => noSyms l
  | .fn _ l => noSyms l
  | _ => true
def noSyms : List D → Bool
  | [] => true
  | d :: r => noSym d && noSyms r
end
theorem noSyms_mem : ∀ {l : List D}, noSyms l = true → ∀ {i : Nat} {d : D}, l[i]? = some d → noSym d = true
  | [], _, i, d, h => by simp at h
  | x :: r, hn, i, d, h => by
    simp only [noSyms, Bool.and_eq_true] at hn
    cases i with
    | zero => simp at h; subst h; exact hn.1
    | succ i => simp at h; exact noSyms_mem hn.2 h
theorem noSym_cells {d : D} (h : noSym d = true) {j : Nat} {y : D} (hj : d.cells[j]? = some y) : noSym y = true := by
  cases d with
  | agg l => simp only [noSym] at h; exact noSyms_mem h hj
  | _ =>
    simp only [D.cells] at hj
    cases j with
    | zero => simp at hj; subst hj; exact h
    | succ j => simp at hj
abbrev sig0 : Sig := ⟨fun _ => .nil⟩
theorem rep_any {s s' : Sig} {F : Mem} {d : D} {v : Value} (h : @Rep s F d v) : noSym d = true → @Rep s' F d v := by
  letI : Sig := s'
  induction h with
  | int k n => exact fun _ => .int k n
  | bool b => exact fun _ => .bool b
  | str s => exact fun _ => .str s
  | nil => exact fun _ => .nil
  | lst l a c sz val hc hsz ho h1 h2 ih =>
    intro hn
    exact .lst l a c sz val hc hsz ho h1 fun i x j y hx hy => ih i x j y hx hy (noSym_cells (noSyms_mem hn hx) hy)
  | agg cs vs hl ho h ih => intro hn; exact .agg cs vs hl ho fun i y v hy hv => ih i y v hy hv (noSyms_mem hn hy)
  | fp cs a val hs ho h1 h2 ih => intro hn; exact .fp cs a val hs ho h1 fun i y hy => ih i y hy (noSyms_mem hn hy)
  | fn f caps vs hl h ih => intro hn; exact .fn f caps vs hl fun i y v hy hv => ih i y v hy hv (noSyms_mem hn hy)
  | nul0 => exact fun _ => .nul0
  | nul1 => exact fun _ => .nul1
  | nul2 => exact fun _ => .nul2
  | nul3 => exact fun _ => .nul3
  | sym i v ho h ih => intro hn; simp [noSym] at hn
mutual
def inU (σ : Nat → D) : U → U
  | .dat d => .dat (inD σ d)
  | .agg l => .agg (inUs σ l)
  | .tup l => .tup (inUs σ l)
  | .fn f l => .fn f (inUs σ l)
  | .ptr o g p => .ptr o g p
  | .own o g a n => .own o g a n
  | .undef => .undef
  | .junk => .junk
  | .map o g => .map o g
def inUs (σ : Nat → D) : List U → List U
  | [] => []
  | u :: r => inU σ u :: inUs σ r
end
def inO (σ : Nat → D) (ob : Obj) : Obj := { ob with cells := inUs σ ob.cells }
def inSt (σ : Nat → D) (s : Store) : Store := s.map fun p => (p.1, inO σ p.2)
theorem getO_in (σ : Nat → D) : ∀ (s : Store) (o : Nat), getO (inSt σ s) o = (getO s o).map (inO σ)
  | [], o => rfl
  | (o', e) :: r, o => by
    show getO ((o', inO σ e) :: inSt σ r) o = _
    simp only [getO]
    split
    · rfl
    · exact getO_in σ r o
theorem Holds.any {s : Sig} {P : Program} {f : Nat} {ds rs : List D} (h : @Holds sig0 P f ds rs) (h1 : noSyms ds = true) (h2 : noSyms rs = true) : @Holds s P f ds rs := by
  letI : Sig := sig0
  refine @Holds.mk s P f _ _ h.body (fun w F vs hF hA => ?_)
  have hA' : Args F none0 (ds.map .dat) vs := by
    refine ⟨@And.left _ _ hA, fun i u v hu hv => ?_⟩
    have := @And.right _ _ hA i u v hu hv
    rw [List.getElem?_map] at hu
    obtain ⟨d, hd, rfl⟩ := Option.map_eq_some_iff.1 hu
    cases this with
    | dat _ _ hr => exact .dat _ _ (rep_any hr (noSyms_mem h1 hd))
  refine Calls.mono (h.calls w F vs hF hA') fun e w' he => ?_
  obtain ⟨v, F', L', rfl, hE, hm, hr⟩ := he
  refine ⟨v, F', L', rfl, hE, hm, ?_⟩
  clear hE hm
  unfold resD at hr ⊢
  split at hr
  · rename_i d
    cases hr with
    | dat _ _ hr => exact @RepU.dat s _ _ _ _ (rep_any hr (by simpa [noSyms] using h2))
  · cases hr with
    | tup _ vals hl hR =>
      refine @RepU.tup s _ _ _ vals hl (fun i u v hu hv => ?_)
      have := hR i u v hu hv
      rw [List.getElem?_map] at hu
      obtain ⟨d, hd, rfl⟩ := Option.map_eq_some_iff.1 hu
      cases this with
      | dat _ _ hr => exact @RepU.dat s _ _ _ _ (rep_any hr (noSyms_mem h2 hd))
def tblNo (t : Tbl) : Bool := t.all fun e => e.2.all fun r => noSyms r.1 && noSyms r.2
theorem TblOk.any {s : Sig} {P : Program} {t : Tbl} (hn : tblNo t = true) (h : @TblOk sig0 P t) : @TblOk s P t := by
  intro e he r hr
  unfold tblNo at hn
  have h1 := List.all_eq_true.1 (List.all_eq_true.1 hn e he) r hr
  simp only [Bool.and_eq_true] at h1
  exact (h e he r hr).any h1.1 h1.2
end Go.Proofs.Ytjofhegodknmaaa.V
