/- V, quickly: each operation that was looked up ahead is V's. -/
import Derived.Test.YtillejiepbgkbaaGreatVI
set_option linter.unusedSimpArgs false
set_option linter.unusedVariables false
namespace Go.Proofs.YtillejiepbgkbaaGreat.V
open Go Go.RowKit

theorem isSize_eq {P : Program} {t : TypeId} {n : Nat} (h : isSize P t n = true) : sizeT P t = some n := by
  unfold isSize at h
  split at h
  · rename_i m hm; rw [hm, Nat.eq_of_beq_eq_true h]
  · simp at h
theorem isAgg_eq {P : Program} {t : TypeId} {b : Bool} (h : isAgg' P t b = true) : aggT P t = some b := by
  unfold isAgg' at h
  split at h
  · rename_i m hm; rw [hm, beqO_eq h]
  · simp at h
theorem isStr_eq {P : Program} {t : TypeId} (h : isStr' P t = true) : P.underlying t = some .string := by
  unfold isStr' at h
  split at h
  · rename_i hm; exact hm
  · simp at h
theorem isSlc_eq {P : Program} {t : TypeId} (h : isSlc P t = true) : ∃ e, P.underlying t = some (.slice e) := by
  unfold isSlc at h
  split at h
  · rename_i e hm; exact ⟨e, hm⟩
  · simp at h
theorem mkAgg_dats (ds : List D) : mkAgg (ds.map .dat) = .dat (.agg ds) := by
  unfold mkAgg
  have : (ds.map U.dat).mapM asDat = some ds := by
    induction ds with
    | nil => rfl
    | cons d r ih => rw [List.map_cons, List.mapM_cons, ih]; rfl
  rw [this]
theorem cond_some {α : Type} {b : Bool} {x : Option α} {y : α} (h : (bif b then x else none) = some y) : b = true ∧ x = some y := by
  cases b with
  | true => exact ⟨rfl, h⟩
  | false => simp at h

section
variable {P : Program} {g : Nat → Option Obj} {id : Nat} {r : Res}
theorem fload_ok {n : Nat} {ag : Bool} {u : U} {t : TypeId} (hn : sizeT P t = some n) (ha : aggT P t = some ag) (h1 : (ag || Nat.beq n 1) = true) (h : fload g n ag u = some r) : opLoad P g t u = some r := by
  have hn1 : ag = false → n = 1 := fun e => by subst e; exact Nat.eq_of_beq_eq_true (by simpa using h1)
  unfold fload at h
  split at h
  · rename_i o gn p
    split at h
    · rename_i ob hob
      replace h := cond_some h
      obtain ⟨hc, h⟩ := h
      simp only [Bool.and_eq_true, Nat.blt_eq] at hc
      have hg := Nat.eq_of_beq_eq_true hc.1
      simp only [opLoad, hob, hn, ha]
      cases ag with
      | true =>
        simp only [cond_true] at h
        replace h := cond_some h
        obtain ⟨h0, h⟩ := h
        rw [Nat.blt_eq] at h0
        obtain ⟨ds, h2, h3, h4⟩ := takeD_some h
        rw [dropR_eq] at h2 h3
        obtain rfl := Option.some.inj h4
        have hlen : p + n ≤ ob.cells.length := by simp at h2; omega
        rw [if_pos ⟨hg, hc.2, hlen⟩]
        simp only [if_true, h3, mkAgg_dats]
      | false =>
        have hn' := hn1 rfl
        subst hn'
        simp only [cond_false] at h
        rw [nth_eq] at h
        cases hu : ob.cells[p]? with
        | none => rw [hu] at h; simp at h
        | some u =>
          rw [hu] at h
          have hlt := (List.getElem?_eq_some_iff.1 hu).1
          rw [if_pos ⟨hg, hc.2, hlt⟩]
          simpa using h
    · simp at h
  · rename_i cs
    cases ag with
    | true => simp at h
    | false =>
      have hn' := hn1 rfl
      subst hn'
      simp only [cond_false] at h
      cases cs with
      | nil => simp at h
      | cons d l =>
        simp only [opLoad, hn, ha]
        rw [if_pos (by simp)]
        simpa using h
  · simp at h
theorem one_cells {u : U} (h : u.one = true) : u.cells = [u] := U.cells_one h
theorem fone_some {u : U} {k : Option Res} {y : Res} (h : fone u k = some y) : u.one = true ∧ k = some y := by
  unfold fone at h
  split at h <;> first | (simp at h; done) | skip
  rename_i h1 h2 h3 h4 h5
  refine ⟨?_, h⟩
  cases u with
  | dat d => cases d <;> first | rfl | exact absurd rfl (h1 _)
  | agg l => exact absurd rfl (h2 _)
  | tup l => exact absurd rfl (h3 _)
  | undef => exact absurd rfl h4
  | junk => exact absurd rfl h5
  | _ => rfl
theorem fstore_ok {n : Nat} {a x : U} {t : TypeId} (hn : sizeT P t = some n) (h : fstore g n a x = some r) : opStore P g t a x = some r := by
  unfold fstore at h
  split at h
  · rename_i o gn p
    split at h
    · rename_i ty esz ag gen snap cells hob
      replace h := cond_some h
      obtain ⟨hc, h⟩ := h
      simp only [Bool.and_eq_true, Nat.blt_eq, Bool.not_eq_true'] at hc
      have hg := Nat.eq_of_beq_eq_true hc.1.1
      simp only [opStore, hob, hn]
      split at h
      · rename_i ds
        replace h := cond_some h
        obtain ⟨hl, h⟩ := h
        obtain ⟨h1, h2, h⟩ := datsK_some h
        obtain ⟨h3, h⟩ := atN_some h
        obtain ⟨h4, h⟩ := overD_some h
        simp only [List.length_drop] at h4
        have hcs : (U.dat (D.agg ds)).cells = ds.map .dat := rfl
        rw [if_pos ⟨hg, hc.1.2, hc.2, by rw [hcs]; simpa using h1, by omega, by rw [hcs]; simp only [List.all_map, List.all_eq_true]; exact fun d hd => h2 d hd⟩]
        rw [← h]
        simp only [splice, hcs, List.length_map, List.drop_drop, List.append_assoc]
      · replace h := cond_some h
        obtain ⟨hl, h⟩ := h
        have hl := Nat.eq_of_beq_eq_true hl
        subst hl
        obtain ⟨h1, h⟩ := fone_some h
        obtain ⟨h2, h⟩ := setN_some h
        rw [one_cells h1]
        rw [if_pos ⟨hg, hc.1.2, hc.2, rfl, h2, by simp [h1]⟩]
        rw [← h]
        simp only [splice, List.length_cons, List.length_nil, Nat.zero_add]
        rw [List.set_eq_take_append_cons_drop, if_pos h2]
        simp
    · simp at h
  · simp at h
theorem fbox_ok {ty n : Nat} {ag : Bool} {x : U} (hn : sizeT P ty = some n) (ha : aggT P ty = some ag) (h0 : 0 < n) (h : fbox id ty n ag x = some r) : opAlloc P id ty x.cells = some r := by
  unfold fbox at h
  split at h
  · rename_i ds
    obtain ⟨h1, h2, h⟩ := datsK_some h
    have hcs : (U.dat (D.agg ds)).cells = ds.map .dat := rfl
    simp only [opAlloc, hn, ha, hcs]
    rw [if_pos ⟨by simpa using h1, h0, by simp only [List.all_map, List.all_eq_true]; exact fun d hd => h2 d hd⟩]
    exact h
  · replace h := cond_some h
    obtain ⟨hl, h⟩ := h
    have hl := Nat.eq_of_beq_eq_true hl
    subst hl
    obtain ⟨h1, h⟩ := fone_some h
    rw [one_cells h1]
    simp only [opAlloc, hn, ha]
    rw [if_pos ⟨rfl, h0, by simp [h1]⟩]
    exact h
theorem forceN_some {γ : Type} {n : Nat} {k : Nat → Option γ} {y : γ} (h : forceN n k = some y) : k n = some y := by rw [forceN_eq] at h; exact h
theorem fidx_ok {sz : Nat} {x ix : U} {t e : TypeId} (ht : P.underlying t = some (.slice e)) (hsz : sizeT P e = some sz) (h : fidx g sz x ix = some r) : opIndexAddr P g t x ix = some r := by
  unfold fidx at h
  split at h
  · rename_i k i
    split at h
    · rename_i o gn off n
      split at h
      · rename_i ob hob
        replace h := cond_some h
        obtain ⟨hc, h⟩ := h
        simp only [Bool.and_eq_true, Nat.blt_eq] at hc
        have h1 := Nat.eq_of_beq_eq_true hc.1.1.1
        have h2 := Nat.eq_of_beq_eq_true hc.1.1.2
        have h := forceN_some h
        simp only [opIndexAddr, ht, hob, hsz]
        rw [if_pos ⟨h1, h2, hc.1.2, Int.natCast_nonneg i, Int.ofNat_lt.2 hc.2⟩]
        exact h
      · simp at h
    · rename_i l
      rw [nth_eq] at h
      split at h
      · rename_i d hd
        have hd' : l[(Int.ofNat i).toNat]? = some d := hd
        simp only [opIndexAddr, ht, hsz, hd']
        split at h
        · rename_i cs
          replace h := cond_some h
          obtain ⟨hc, h⟩ := h
          simp only [Bool.and_eq_true, Nat.blt_eq] at hc
          rw [if_pos ⟨Int.natCast_nonneg i, Nat.eq_of_beq_eq_true hc.1, hc.2⟩]
          exact h
        · rename_i hna
          replace h := cond_some h
          obtain ⟨hc, h⟩ := h
          have hc := Nat.eq_of_beq_eq_true hc
          subst hc
          have h1 : d.one = true := by cases d <;> first | rfl | exact absurd rfl (hna _)
          rw [D.cells_one h1, if_pos ⟨Int.natCast_nonneg i, rfl, Nat.one_pos⟩]
          exact h
      · simp at h
    · simp at h
  · simp at h

/-! Operations that touch no memory. -/
theorem opPure_one {tm : List U} {o : Oper} {x : Operand} {v w : Value} {d : D} (hops : o.op.operands.toList = [x]) (hx : (evalU tm x).bind valU = some v) (hns : ∀ cs b, o.op ≠ .select cs b)
    (he : ∀ ρ : Operand → Value, ρ x = v → pureSem P (execOp ρ o) = some (.value w)) (hd : constD w = some d) : opPure P tm o = some ⟨.dat d, [], []⟩ := by
  unfold opPure
  rw [hops]
  simp only [List.all_cons, List.all_nil, hx, Option.isSome_some, Bool.and_self, if_true, Bool.and_true]
  rw [he (fun x => ((evalU tm x).bind valU).getD undef) (by simp only [hx]; rfl)]
  cases ho : o.op <;> first | exact absurd ho (hns _ _) | simp only [hd, Option.map_some]
theorem opPure_two {tm : List U} {o : Oper} {x y : Operand} {v z w : Value} {d : D} (hops : o.op.operands.toList = [x, y]) (hx : (evalU tm x).bind valU = some v) (hy : (evalU tm y).bind valU = some z) (hns : ∀ cs b, o.op ≠ .select cs b)
    (he : ∀ ρ : Operand → Value, ρ x = v → ρ y = z → pureSem P (execOp ρ o) = some (.value w)) (hd : constD w = some d) : opPure P tm o = some ⟨.dat d, [], []⟩ := by
  unfold opPure
  rw [hops]
  simp only [List.all_cons, List.all_nil, hx, hy, Option.isSome_some, Bool.and_self, if_true, Bool.and_true]
  rw [he (fun x => ((evalU tm x).bind valU).getD undef) (by simp only [hx]; rfl) (by simp only [hy]; rfl)]
  cases ho : o.op <;> first | exact absurd ho (hns _ _) | simp only [hd, Option.map_some]
theorem opPure_none {tm : List U} {o : Oper} {x : Operand} {u : U} (hx : x ∈ o.op.operands.toList) (hu : evalU tm x = some u) (hv : valU u = none) : opPure P tm o = none := by
  unfold opPure
  rw [if_neg]
  intro h
  have := List.all_eq_true.1 h x hx
  rw [hu] at this
  simp [hv] at this
end

end Go.Proofs.YtillejiepbgkbaaGreat.V
