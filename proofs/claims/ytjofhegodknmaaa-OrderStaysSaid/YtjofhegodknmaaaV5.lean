/- V, 5: addresses, slices, append: as V says. -/
import Derived.Test.YtjofhegodknmaaaV4
import Derived.Deep.AppendSrc
import Derived.Deep.Upon
set_option linter.unusedSimpArgs false
set_option linter.unusedVariables false
namespace Go.Proofs.Ytjofhegodknmaaa.V
open Go
variable [Sig]
section
variable {P : Program} {a : Act} {o : Oper} {w : World} {F : Mem} {L : Lay} {b0 : Nat} {g : Nat → Option Obj} {tm : List U}
theorem fieldOf_info {t : TypeId} {f : Nat} {fd : Field} (h : fieldOf P t f = some fd) : ∃ fs, P.underlying t = some (.struct fs) ∧ fs[f]? = some fd := by
  have _s : Sig := inferInstance
  unfold fieldOf at h
  split at h
  · rename_i fs hu
    exact ⟨fs, hu, h⟩
  · simp at h
theorem fp_drop {cs : List D} {ad : Addr} (h : Rep F (.fp cs) (.pointer (some ad))) (k : Nat) : Rep F (.fp (cs.drop k)) (.pointer (some (ad.add k))) := by
  cases h with
  | fp _ _ val hs ho hF hR =>
    refine .fp _ _ (fun i => val (k + i)) ?_ (fun i y hy => ho (k + i) y (by rw [List.getElem?_drop] at hy; exact hy)) (fun i y hy => ?_) (fun i y hy => hR (k + i) y (by rw [List.getElem?_drop] at hy; exact hy))
    · unfold Addr.add
      split
      · exact hs
      · rfl
    · rw [add_add']
      exact hF (k + i) y (by rw [List.getElem?_drop] at hy; exact hy)
theorem ptr_add {x gn p : Nat} {v : Value} (h : RepU F L (.ptr x gn p) v) (k : Nat) : ∃ ad, v = .pointer (some ad) ∧ RepU F L (.ptr x gn (p + k)) (.pointer (some (ad.add k))) := by
  cases h with
  | ptr _ _ i hL => exact ⟨_, rfl, by rw [add_none]; exact .ptr x (p + k) i hL⟩
  | ptrOld _ _ _ i ad hL hlt => exact ⟨ad, rfl, .ptrOld x gn (p + k) i _ hL hlt⟩
theorem fieldAddr_ok {s : TypeId} {x : Operand} {f : Nat} {r : Res} (hop : o.op = .fieldAddr s x f) (h : (evalU tm x).bind (opFieldAddr P s f) = some r) (hS : SR w F L b0 g) (hT : TR F L tm a.tmps) : OpOk P a o w F L b0 g r := by
  replace h := Option.bind_eq_some_iff.1 h
  obtain ⟨u, hu, h⟩ := h
  have hr := eval_rep hT hu
  unfold opFieldAddr at h
  split at h
  · rename_i fd hfd
    obtain ⟨fs, hus, hf⟩ := fieldOf_info hfd
    split at h
    · rename_i n hn
      split at h
      · simp at h
      · rename_i hn0
        have hs := run_sizeOf hn w
        have hrun : ∀ ad, a.eval x = .pointer (some ad) → (execOp a.eval o).run P w = .ok (.value (.pointer (some (ad.add fd.offset)))) w := by
          intro ad had
          simp [execOp, hop, Instr.fieldAt, run_underlying hus, hf, Instr.sureAddr, had, fieldPlace, hs, hn0]
        split at h
        · obtain rfl := Option.some.inj h
          obtain ⟨ad, had, hr'⟩ := ptr_add hr fd.offset
          exact .quiet hS rfl (hrun ad had) hr'
        · rename_i cs
          obtain rfl := Option.some.inj h
          cases hr with
          | dat _ v hr =>
            obtain ⟨ad, hv⟩ : ∃ ad, a.eval x = .pointer (some ad) := by
              generalize a.eval x = v at hr
              cases hr with
              | fp _ ad _ _ _ _ _ => exact ⟨ad, rfl⟩
            rw [hv] at hr
            exact .quiet hS rfl (hrun ad hv) (.dat _ _ (fp_drop hr fd.offset))
        · simp at h
    · simp at h
  · simp at h
theorem part_ok {t : TypeId} {n : Nat} {ag : Bool} {off : Nat} {cs : Array Value} (hn : sizeT P t = some n) (ha : aggT P t = some ag) :
    (ag = true → (part t cs off).run P w = .ok (.agg (((cs.toList.drop off).take n).toArray)) w) ∧ (ag = false → ∀ v, cs[off]? = some v → (part t cs off).run P w = .ok v w) := by
  have h1 := run_isAgg ha w
  have h2 := run_sizeOf hn w
  refine ⟨fun e => ?_, fun e v hv => ?_⟩
  · subst e
    have e2 : cs.extract off (off + n) = ((cs.toList.drop off).take n).toArray := by
      apply Array.ext'
      simp [List.extract_eq_take_drop]
    simp [part, h1, h2, e2]
  · subst e
    simp [part, h1, hv]
theorem aggD_part {ds : List D} {vs : List Value} (h : Rep F (.agg ds) (.agg vs.toArray)) (off n : Nat) (hn : off + n ≤ ds.length) : Rep F (.agg ((ds.drop off).take n)) (.agg ((vs.drop off).take n).toArray) := by
  generalize hv : Value.agg vs.toArray = v at h
  cases h with
  | agg _ vs' hl ho hR =>
    have : vs = vs' := by
      injection hv with hv
      simpa using congrArg Array.toList hv
    subst this
    refine .agg _ _ (by simp; omega) (fun i y hy => ?_) (fun i y v hy hv => ?_)
    · rw [List.getElem?_take] at hy
      split at hy
      · rw [List.getElem?_drop] at hy; exact ho _ y hy
      · simp at hy
    · rw [List.getElem?_take] at hy hv
      split at hy
      · rename_i hi
        rw [if_pos hi] at hv
        rw [List.getElem?_drop] at hy hv
        exact hR _ y v hy hv
      · simp at hy
theorem agg_inv {ds : List D} {v : Value} (h : Rep F (.agg ds) v) : ∃ vs : List Value, v = .agg vs.toArray ∧ vs.length = ds.length ∧ (∀ (i : Nat) y, ds[i]? = some y → y.one = true) ∧ (∀ (i : Nat) y v, ds[i]? = some y → vs[i]? = some v → Rep F y v) := by
  cases h with
  | agg _ vs hl ho hR => exact ⟨vs, rfl, hl, ho, hR⟩
theorem aggU_inv {cs : List U} {v : Value} (h : RepU F L (.agg cs) v) : ∃ vs : List Value, v = .agg vs.toArray ∧ vs.length = cs.length ∧ (∀ (i : Nat) y, cs[i]? = some y → y.one = true) ∧ (∀ (i : Nat) y v, cs[i]? = some y → vs[i]? = some v → RepU F L y v) := by
  cases h with
  | agg _ vs hl ho hR => exact ⟨vs, rfl, hl, ho, hR⟩
theorem dat_inv {d : D} {v : Value} (h : RepU F L (.dat d) v) : Rep F d v := by
  cases h with
  | dat _ _ h => exact h
theorem partU {t : TypeId} {n : Nat} {ag : Bool} {off : Nat} {u : U} {v : Value} {r : Res} (hn : sizeT P t = some n) (ha : aggT P t = some ag) (hr : RepU F L u v)
    (h : (∃ ds, u = .dat (.agg ds) ∧ (if ag then (if off + n ≤ ds.length then some (⟨.dat (.agg ((ds.drop off).take n)), [], []⟩ : Res) else none) else (ds[off]?).map fun d => ⟨.dat d, [], []⟩) = some r) ∨
      (∃ cs, u = .agg cs ∧ (if ag then (if off + n ≤ cs.length then some (⟨mkAgg ((cs.drop off).take n), [], []⟩ : Res) else none) else (cs[off]?).map fun u => ⟨u, [], []⟩) = some r)) :
    r.up = [] ∧ ∃ cs x, v = .agg cs ∧ (part t cs off).run P w = .ok x w ∧ RepU F L r.u x := by
  rcases h with ⟨ds, rfl, h⟩ | ⟨cs, rfl, h⟩
  · obtain ⟨vs, rfl, hl, ho, hR⟩ := agg_inv (dat_inv hr)
    obtain ⟨p1, p2⟩ := part_ok (w := w) (off := off) (cs := vs.toArray) hn ha
    split at h
    · rename_i hag
      split at h
      · rename_i hlen
        obtain rfl := Option.some.inj h
        exact ⟨rfl, _, _, rfl, p1 hag, .dat _ _ (aggD_part (dat_inv hr) off n hlen)⟩
      · simp at h
    · rename_i hag
      obtain ⟨d, hd, rfl⟩ := Option.map_eq_some_iff.1 h
      have hlt : off < vs.length := by rw [hl]; exact (List.getElem?_eq_some_iff.1 hd).1
      exact ⟨rfl, _, _, rfl, p2 (by simpa using hag) vs[off] (by simp [hlt]), .dat _ _ (hR off d _ hd (List.getElem?_eq_getElem hlt))⟩
  · obtain ⟨vs, rfl, hl, ho, hR⟩ := aggU_inv hr
    obtain ⟨p1, p2⟩ := part_ok (w := w) (off := off) (cs := vs.toArray) hn ha
    split at h
    · rename_i hag
      split at h
      · rename_i hlen
        obtain rfl := Option.some.inj h
        refine ⟨rfl, _, _, rfl, p1 hag, mkAgg_rep (by simp; omega) (fun i u hu => ?_) (fun i u v hu hv => ?_)⟩
        · rw [List.getElem?_take] at hu
          split at hu
          · rw [List.getElem?_drop] at hu; exact ho _ u hu
          · simp at hu
        · simp only [List.toList_toArray] at hv
          rw [List.getElem?_take] at hu hv
          split at hu
          · rename_i hi
            rw [if_pos hi] at hv
            rw [List.getElem?_drop] at hu hv
            exact hR _ u v hu hv
          · simp at hu
      · simp at h
    · rename_i hag
      obtain ⟨d, hd, rfl⟩ := Option.map_eq_some_iff.1 h
      have hlt : off < vs.length := by rw [hl]; exact (List.getElem?_eq_some_iff.1 hd).1
      exact ⟨rfl, _, _, rfl, p2 (by simpa using hag) vs[off] (by simp [hlt]), hR off d _ hd (List.getElem?_eq_getElem hlt)⟩
theorem field_ok {t : TypeId} {x : Operand} {f : Nat} {r : Res} (hop : o.op = .field t x f) (h : (evalU tm x).bind (opField P t f) = some r) (hS : SR w F L b0 g) (hT : TR F L tm a.tmps) : OpOk P a o w F L b0 g r := by
  replace h := Option.bind_eq_some_iff.1 h
  obtain ⟨u, hu, h⟩ := h
  have hr := eval_rep hT hu
  unfold opField at h
  split at h
  · rename_i fd hfd
    obtain ⟨fs, hus, hf⟩ := fieldOf_info hfd
    have key : ∀ (n : Nat) (ag : Bool), sizeT P fd.type = some n → aggT P fd.type = some ag →
        ((∃ ds, u = .dat (.agg ds) ∧ (if ag then (if fd.offset + n ≤ ds.length then some (⟨.dat (.agg ((ds.drop fd.offset).take n)), [], []⟩ : Res) else none) else (ds[fd.offset]?).map fun d => ⟨.dat d, [], []⟩) = some r) ∨
        (∃ cs, u = .agg cs ∧ (if ag then (if fd.offset + n ≤ cs.length then some (⟨mkAgg ((cs.drop fd.offset).take n), [], []⟩ : Res) else none) else (cs[fd.offset]?).map fun u => ⟨u, [], []⟩) = some r)) → OpOk P a o w F L b0 g r := by
      intro n ag hn ha hh
      obtain ⟨hup, cs, y, hv, hp, hry⟩ := partU (w := w) hn ha hr hh
      refine .quiet hS hup ?_ hry
      simp [execOp, hop, Instr.field, run_underlying hus, hf, asAgg, hv, hp]
    split at h
    · rename_i n ag ds hn ha
      exact key n ag hn ha (.inl ⟨ds, rfl, h⟩)
    · rename_i n ag cs hn ha
      exact key n ag hn ha (.inr ⟨cs, rfl, h⟩)
    · simp at h
  · simp at h
theorem own_now {ob : Obj} {x gn off n : Nat} {v : Value} (hS : SR w F L b0 g) (hg : g x = some ob) (hgn : ob.gen = gn) (hr : RepU F L (.own x gn off n) v) :
    ∃ i ad c, L x = some i ∧ i.gen = gn ∧ i.esz = ob.esz ∧ v = .slice (some ad) n c ∧ n ≤ c ∧ (0 < c → ad = ⟨i.blk, off * i.esz, none⟩ ∧ (off + c) * i.esz ≤ i.size) := by
  obtain ⟨i, arr, hL, r1, r2, _⟩ := hS.obj x ob hg
  cases hr with
  | own _ _ _ c i' hL' hn hc =>
    rw [hL] at hL'
    obtain rfl := Option.some.inj hL'
    exact ⟨i, _, c, hL, rfl, r2, rfl, hn, fun _ => ⟨rfl, hc⟩⟩
  | ownEnd _ _ i' ad hL' =>
    rw [hL] at hL'
    obtain rfl := Option.some.inj hL'
    exact ⟨i, ad, 0, hL, rfl, r2, rfl, Nat.le_refl _, fun h => absurd h (Nat.lt_irrefl 0)⟩
  | ownOld _ _ _ _ i' ad c hL' hlt =>
    rw [hL] at hL'
    obtain rfl := Option.some.inj hL'
    omega
theorem ix_inv {k : IntKind} {i : Int} {v : Value} (h : RepU F L (.dat (.int k i)) v) : v = .int k i := by
  cases dat_inv h with
  | int => rfl
theorem indexAddr_ok {t : TypeId} {x y : Operand} {r : Res} (hop : o.op = .indexAddr t x y) (h : (evalU tm x).bind (fun u => (evalU tm y).bind (opIndexAddr P g t u)) = some r) (hS : SR w F L b0 g) (hT : TR F L tm a.tmps) : OpOk P a o w F L b0 g r := by
  replace h := Option.bind_eq_some_iff.1 h
  obtain ⟨u, hu, h⟩ := h
  replace h := Option.bind_eq_some_iff.1 h
  obtain ⟨z, hz, h⟩ := h
  have hr := eval_rep hT hu
  have hrz := eval_rep hT hz
  unfold opIndexAddr at h
  split at h
  · -- a slice of one's own
    rename_i k i e x' gn off n hus
    have hiv := ix_inv hrz
    split at h
    · rename_i ob sz hg hsz
      split at h
      · rename_i hcond
        obtain ⟨hgn, hse, h0, h1⟩ := hcond
        obtain rfl := Option.some.inj h
        obtain ⟨inf, ad, c, hL, hig, hie, hv, hnc, had⟩ := own_now hS hg hgn hr
        obtain ⟨rfl, _⟩ := had (by omega)
        have hs := run_sizeOf hsz w
        refine .quiet hS rfl (v := .pointer (some ((⟨inf.blk, off * inf.esz, none⟩ : Addr).add (i.toNat * sz)))) ?_ ?_
        · simp [execOp, hop, Instr.indexAt, hiv, hv, asIntOf, run_underlying hus, h0, h1, hs]
        · rw [add_none]
          have e1 : off * inf.esz + i.toNat * sz = (off + i.toNat) * sz := by rw [hie, ← hse, Nat.add_mul]
          rw [e1]
          subst hig
          exact .ptr x' _ inf hL
      · simp at h
    · simp at h
  · -- data
    rename_i k i e l hus
    have hiv := ix_inv hrz
    split at h
    · rename_i sz d hsz hd
      split at h
      · rename_i hcond
        obtain ⟨h0, hlen, hpos⟩ := hcond
        obtain rfl := Option.some.inj h
        have hrl := dat_inv hr
        generalize hv : a.eval x = v at hrl
        cases hrl with
        | lst _ ad c sz' val hc hsz' ho hF hR =>
          have hs := run_sizeOf hsz w
          have hsz2 : sz' = sz := by rw [← hsz' d (List.mem_of_getElem? hd), hlen]
          subst hsz2
          have hlt : i.toNat < l.length := (List.getElem?_eq_some_iff.1 hd).1
          have h1 : i < (l.length : Int) := by omega
          refine .quiet hS rfl (v := .pointer (some (ad.add (i.toNat * sz')))) ?_ (.dat _ _ (.fp _ _ (val i.toNat) ?_ (fun j y hy => ho _ d j y hd hy) (fun j y hy => ?_) (fun j y hy => hR _ d j y hd hy)))
          · simp [execOp, hop, Instr.indexAt, hiv, hv, asIntOf, run_underlying hus, h0, h1, hs]
          · have h2 : ∃ y, d.cells[0]? = some y := ⟨d.cells[0], List.getElem?_eq_getElem (by omega)⟩
            obtain ⟨y, hy⟩ := h2
            have := F_spot hS (hF _ d 0 y hd hy)
            simpa using this
          · rw [add_add']
            exact hF _ d j y hd hy
      · simp at h
    · simp at h
  · -- an array behind a pointer
    rename_i k i len e x' gn p hus
    have hiv := ix_inv hrz
    split at h
    · rename_i sz hsz
      split at h
      · rename_i hcond
        obtain ⟨h0, h1⟩ := hcond
        obtain rfl := Option.some.inj h
        obtain ⟨ad, had, hr'⟩ := ptr_add hr (i.toNat * sz)
        have hs := run_sizeOf hsz w
        refine .quiet hS rfl ?_ hr'
        simp [execOp, hop, Instr.indexAt, hiv, had, asIntOf, run_underlying hus, Instr.sureAddr, h0, h1, hs]
      · simp at h
    · simp at h
  · rename_i k i len e cs hus
    have hiv := ix_inv hrz
    split at h
    · rename_i sz hsz
      split at h
      · rename_i hcond
        obtain ⟨h0, h1⟩ := hcond
        obtain rfl := Option.some.inj h
        have hrf := dat_inv hr
        obtain ⟨ad, hv⟩ : ∃ ad, a.eval x = .pointer (some ad) := by
          generalize a.eval x = v at hrf
          cases hrf with
          | fp _ ad _ _ _ _ _ => exact ⟨ad, rfl⟩
        rw [hv] at hrf
        have hs := run_sizeOf hsz w
        refine .quiet hS rfl ?_ (.dat _ _ (fp_drop hrf (i.toNat * sz)))
        simp [execOp, hop, Instr.indexAt, hiv, hv, asIntOf, run_underlying hus, Instr.sureAddr, h0, h1, hs]
      · simp at h
    · simp at h
  · simp at h
theorem index_ok {t : TypeId} {x y : Operand} {r : Res} (hop : o.op = .index t x y) (h : (evalU tm x).bind (fun u => (evalU tm y).bind (opIndex P t u)) = some r) (hS : SR w F L b0 g) (hT : TR F L tm a.tmps) : OpOk P a o w F L b0 g r := by
  replace h := Option.bind_eq_some_iff.1 h
  obtain ⟨u, hu, h⟩ := h
  replace h := Option.bind_eq_some_iff.1 h
  obtain ⟨z, hz, h⟩ := h
  have hr := eval_rep hT hu
  have hrz := eval_rep hT hz
  unfold opIndex at h
  split at h
  · rename_i k i len e ds hus
    have hiv := ix_inv hrz
    split at h
    · rename_i n ag hn ha
      split at h
      · rename_i hcond
        obtain ⟨h0, h1⟩ := hcond
        obtain ⟨hup, cs, y', hv, hp, hry⟩ := partU (w := w) hn ha hr (.inl ⟨ds, rfl, h⟩)
        have hs := run_sizeOf hn w
        refine .quiet hS hup ?_ hry
        simp [execOp, hop, Instr.index, hiv, hv, asIntOf, run_underlying hus, h0, h1, hs, hp]
      · simp at h
    · simp at h
  · simp at h
end
end Go.Proofs.Ytjofhegodknmaaa.V
