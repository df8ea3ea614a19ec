/- TbinFields: the law's function. -/
import Derived.Test.YtjofhegodknmaaaGreatOc
set_option linter.unusedSimpArgs false
set_option linter.unusedVariables false
set_option maxRecDepth 20000
namespace Go.Proofs.YtjofhegodknmaaaGreat.Tbf
open Go Go.RowKit
open W
open V (D)
/-! Twins. -/
theorem twin_el (a : Int) : Cv F 8 [el a, el a] [.bool true] := by
  refine Cv.wp1 rfl rfl rfl ?_
  iterate 10 refine Wp.op rfl rfl ?_
  iterate 2
    refine Wp.op rfl (neqKF rfl) ?_
    refine Wp.iteF rfl ?_
  refine Wp.op rfl (strNeqF _) ?_
  refine Wp.iteF rfl ?_
  iterate 2
    iterate 2 refine Wp.op rfl rfl ?_
    refine Wp.op rfl (neqKF rfl) ?_
    refine Wp.iteF rfl ?_
  refine Wp.bind1 [] ?_ rfl rfl ?_
  · refine Wp.rounds rfl rfl (Wl.step ?_)
    refine Wp.op rfl (lssF (by decide)) (Wp.iteF rfl ?_)
    exact Wp.fin rfl rfl (.inr ⟨by simp, rfl, rfl⟩)
  refine Wp.bind1 [] ?_ rfl rfl ?_
  · refine Wp.rounds rfl rfl (Wl.step ?_)
    refine Wp.op rfl (lssF (by decide)) (Wp.iteF rfl ?_)
    exact Wp.fin rfl rfl (.inr ⟨by simp, rfl, rfl⟩)
  exact Wp.fin rfl rfl ⟨rfl, rfl⟩
theorem twin_ok (av : Nat → Int) : Cv F 8 [sD av, sD av] [.bool true] := by
  refine Cv.wp1 rfl rfl rfl ?_
  iterate 10 refine Wp.op rfl rfl ?_
  iterate 2
    refine Wp.op rfl (neqKF rfl) ?_
    refine Wp.iteF rfl ?_
  refine Wp.op rfl (strNeqF _) ?_
  refine Wp.iteF rfl ?_
  iterate 2
    iterate 2 refine Wp.op rfl rfl ?_
    refine Wp.op rfl (neqKF rfl) ?_
    refine Wp.iteF rfl ?_
  refine Wp.bind1 [] ?_ rfl rfl ?_
  · refine Wp.rounds rfl rfl ?_
    iterate 4
      refine Wl.step ?_
      refine Wp.op rfl (lssT (by decide)) (Wp.iteT rfl ?_)
      iterate 4 refine Wp.op rfl rfl ?_
      refine Wp.op rfl (neqKF rfl) (Wp.iteF rfl ?_)
      refine Wp.op rfl rfl ?_
      refine Wp.fin rfl rfl (.inl ⟨rfl, rfl, ?_⟩)
    refine Wl.step ?_
    refine Wp.op rfl (lssF (by decide)) (Wp.iteF rfl ?_)
    exact Wp.fin rfl rfl (.inr ⟨by simp, rfl, rfl⟩)
  refine Wp.bind1 [] ?_ rfl rfl ?_
  · refine Wp.rounds rfl rfl ?_
    iterate 4
      refine Wl.step ?_
      refine Wp.op rfl rfl (Wp.iteT rfl ?_)
      iterate 2 refine Wp.op rfl rfl ?_
      refine Wp.call rfl (twin_el _) rfl rfl ?_
      refine Wp.op rfl (noI _) (Wp.iteF rfl ?_)
      refine Wp.op rfl rfl ?_
      refine Wp.fin rfl rfl (.inl ⟨rfl, rfl, ?_⟩)
    refine Wl.step ?_
    refine Wp.op rfl rfl (Wp.iteF rfl ?_)
    exact Wp.fin rfl rfl (.inr ⟨by simp, rfl, rfl⟩)
  exact Wp.fin rfl rfl ⟨rfl, rfl⟩
def b3 : T := match t3 with | .op _ _ (.op _ _ (.op _ _ (.op _ _ (.call _ _ _ (.op _ _ (.ite _ _ (.op _ _ (.op _ _ (.ite _ _ (.op _ _ (.op _ _ (.op _ _ (.op _ _ (.op _ _ (.op _ _ (.op _ _ (.op _ _ (.op _ _ (.op _ _ (.op _ _ (.op _ _ (.op _ _ (.op _ _ (.op _ _ (.op _ _ (.op _ _ (.op _ _ (.op _ _ (.op _ _ (.op _ _ (.op _ _ (.op _ _ (.op _ _ (.op _ _ (.op _ _ (.op _ _ (.op _ _ (.op _ _ (.op _ _ (.op _ _ (.op _ _ (.op _ _ (.op _ _ (.op _ _ (.op _ _ (.op _ _ (.op _ _ (.op _ _ (.op _ _ (.op _ _ (.op _ _ (.op _ _ (.bind _ (.loop _ b) _ _))))))))))))))))))))))))))))))))))))))))))))))))))))) => b | _ => default
def b3_1 : T := match t3 with | .op _ _ (.op _ _ (.op _ _ (.op _ _ (.call _ _ _ (.op _ _ (.ite _ _ (.op _ _ (.op _ _ (.ite _ _ (.op _ _ (.op _ _ (.op _ _ (.op _ _ (.op _ _ (.op _ _ (.op _ _ (.op _ _ (.op _ _ (.op _ _ (.op _ _ (.op _ _ (.op _ _ (.op _ _ (.op _ _ (.op _ _ (.op _ _ (.op _ _ (.op _ _ (.op _ _ (.op _ _ (.op _ _ (.op _ _ (.op _ _ (.op _ _ (.op _ _ (.op _ _ (.op _ _ (.op _ _ (.op _ _ (.op _ _ (.op _ _ (.op _ _ (.op _ _ (.op _ _ (.op _ _ (.op _ _ (.op _ _ (.op _ _ (.op _ _ (.op _ _ (.op _ _ (.op _ _ (.bind _ _ _ (.bind _ (.loop _ b) _ _)))))))))))))))))))))))))))))))))))))))))))))))))))))) => b | _ => default
/-! Parts that change places. -/
theorem swap_perm {α : Type} (l : List α) {p q : Nat} (hp : p < l.length) (hq : q < l.length) : ((l.set p l[q]).set q l[p]).Perm l := by
  have := Array.swap_perm (xs := l.toArray) (i := p) (j := q) (by simpa using hp) (by simpa using hq)
  simpa [Array.swap, Array.perm_iff_toList_perm] using this
def ptD (p : Pt) : D := .lst (p.bytes.map u8)
theorem convU8 {k : IntKind} (a : Int) : copD (.conv .u8) [.int k a] = some (u8 (a % 256)) := by simp [copD, V.wr_u8]
theorem pt_len (p : Pt) : (fun d : D => Nat.beq d.cells.length 1) (ptD p) = true := rfl
theorem remN {m n : Nat} {k : IntKind} (h : n ≠ 0) : copD (.bin .rem) [.int k m, .int k n] = some (.int k ((m % n : Nat) : Int)) := by
  have e : ((n : Int) = 0) = False := by simp [h]
  simp [copD, binD, V.shiftOp, V.cmpI, V.ariI, h]
  exact Int.tmod_eq_emod_of_nonneg (by omega)
theorem quo16 {m : Nat} (h : m ≤ 255) : copD (.bin .quo) [.int .u8 m, .int .u8 16] = some (.int .u8 ((m / 16 : Nat) : Int)) := by
  have e : ((m : Int)).tdiv 16 = ((m / 16 : Nat) : Int) := rfl
  simp only [copD, binD, V.shiftOp, V.cmpI, V.ariI, Bool.false_eq_true, if_false, if_true, e, wrU8 (n := ((m / 16 : Nat) : Int)) (by omega) (by omega)]
  rfl
theorem elt_pt {ps : List Pt} {n : Nat} {i : Int} (hi : i = n) (h : n < ps.length) : copD (.pop (.elt 1)) [.lst (ps.map ptD), .int .i64 i] = some (ptD ps[n]) := eltI hi (by simp [h]) rfl
theorem upd_pt {ps : List Pt} {p : Pt} {n : Nat} {i : Int} (hi : i = n) (h : n < ps.length) : copD (.pop (.upd 1 0 false)) [.lst (ps.map ptD), .int .i64 i, ptD p] = some (.lst ((ps.set n p).map ptD)) := by
  rw [upd1 hi (by simpa using h) (all_map pt_len) rfl, List.map_set]
theorem room_pt {ps : List Pt} (h : ps.length ≤ 100) : copD (.pop (.room 1 24)) [.lst (ps.map ptD)] = some (.bool true) := by
  have : Nat.ble (((ps.map ptD).length + 1) * 24) 140737488355328 = true := Nat.ble_eq_true_of_le (by simp; omega)
  simp only [copD, freeP, if_true, popD, lstOf, this]
structure Inv (av : Nat → Int) (k : Nat) (ps : List Pt) : Prop where
  ok : ∀ p ∈ ps, p.ok
  pm : (ps.filterMap fnum).Perm (qOf av [0, 1, 2, 3])
  lo : 4 ≤ ps.length
  hi : ps.length ≤ 4 + k
theorem loop3 {av : Nat → Int} {r : List D} {H : List Nat} (hr : r.length = 53) (h1 : atR 53 r (.v 1) = some (.lst (H.map fun h : Nat => u8 (h : Int)))) (h8 : atR 53 r (.v 8) = some (n64 H.length)) (hH : ∀ h ∈ H, h ≤ 255) (hl : H.length ≤ 8) :
    ∀ (k i : Nat) (ps : List Pt), H.length - i ≤ k → i ≤ H.length → Inv av i ps → Wl F b3 53 r [n64 i, .lst (ps.map ptD)] (fun y rs => y = .exit 2 ∧ ∃ ps, Inv av 8 ps ∧ rs = [.lst (ps.map ptD)]) := by
  intro k
  have fin : ∀ (i : Nat) (ps : List Pt), H.length ≤ i → i ≤ H.length → Inv av i ps → Wl F b3 53 r [n64 i, .lst (ps.map ptD)] (fun y rs => y = .exit 2 ∧ ∃ ps, Inv av 8 ps ∧ rs = [.lst (ps.map ptD)]) := by
    intro i ps hi hj hv
    refine Wl.step ?_
    refine Wp.op (atsR2 rfl (atR_cons (atR_cons h8 rfl) rfl)) (lssF (by omega)) ?_
    refine Wp.iteF rfl ?_
    exact Wp.fin (by simp [len_push, hr]) rfl (.inr ⟨by simp, rfl, ps, ⟨hv.ok, hv.pm, hv.lo, by have := hv.hi; omega⟩, rfl⟩)
  induction k with
  | zero => intro i ps hi hj hv; exact fin i ps (by omega) hj hv
  | succ k ih =>
    intro i ps hi hj hv
    by_cases hil : H.length ≤ i
    · exact fin i ps hil hj hv
    have hlo := hv.lo
    have hhi := hv.hi
    obtain ⟨h, hh⟩ : ∃ h, H[i]? = some h := ⟨H[i], List.getElem?_eq_getElem (by omega)⟩
    have hb : h ≤ 255 := hH h (List.mem_of_getElem? hh)
    have hn0 : ps.length ≠ 0 := by omega
    have hp : h % ps.length < ps.length := Nat.mod_lt _ (by omega)
    have hq : h / 16 % ps.length < ps.length := Nat.mod_lt _ (by omega)
    let ps1 := (ps.set (h % ps.length) ps[h / 16 % ps.length]).set (h / 16 % ps.length) ps[h % ps.length]
    have hpm : ps1.Perm ps := swap_perm ps hp hq
    have hok1 : ∀ p ∈ ps1, p.ok := fun p hm => hv.ok p (hpm.mem_iff.1 hm)
    have hpm1 : (ps1.filterMap fnum).Perm (qOf av [0, 1, 2, 3]) := (hpm.filterMap fnum).trans hv.pm
    have hlen1 : ps1.length = ps.length := hpm.length_eq
    refine Wl.step ?_
    refine Wp.op (atsR2 rfl (atR_cons (atR_cons h8 rfl) rfl)) (lssT (by omega)) ?_
    refine Wp.iteT rfl ?_
    refine Wp.bindJ (fun rs => ∃ ps', Inv av (i + 1) ps' ∧ rs = [.lst (ps'.map ptD)]) ?_ ?_
    · refine Wp.op (atsR2 (atR_cons (atR_cons (atR_cons h1 rfl) rfl) rfl) rfl) (eltI (n := i) rfl (d := u8 h) (by simp [hh]) rfl) ?_
      refine Wp.op rfl rfl ?_
      refine Wp.op rfl (convI .i64 (wrap64 (by omega) (by omega))) ?_
      refine Wp.op rfl (lenI (n := ps.length) (by simp)) ?_
      refine Wp.op rfl (remN hn0) ?_
      refine Wp.op rfl (quo16 hb) ?_
      refine Wp.op rfl (convI .i64 (wrap64 (by omega) (by omega))) ?_
      refine Wp.op rfl (remN hn0) ?_
      refine Wp.op rfl (elt_pt rfl hq) ?_
      refine Wp.op rfl rfl ?_
      refine Wp.op rfl (elt_pt rfl hp) ?_
      refine Wp.op rfl rfl ?_
      refine Wp.op rfl (upd_pt rfl hp) ?_
      refine Wp.op rfl (elt_pt (n := h / 16 % ps.length) rfl (by simpa using hq)) ?_
      refine Wp.op rfl (upd_pt rfl (by simpa using hq)) ?_
      refine Wp.op rfl (remN (n := 3) (by decide)) ?_
      refine Wp.op rfl (eqlK _ _) ?_
      refine Wp.iteP rfl (fun h73 => ?_) (fun h73 => ?_)
      · refine Wp.op rfl (remN (n := 9) (by decide)) ?_
        refine Wp.op rfl (addU8 (r := ((h % 9 + 1 : Nat) : Int)) (by omega) (by omega) (by omega)) ?_
        refine Wp.op rfl (room_pt (ps := ps1) (by omega)) ?_
        iterate 3 refine Wp.op rfl rfl ?_
        refine Wp.op rfl (catL rfl (by simp; omega)) ?_
        refine Wp.op rfl rfl ?_
        refine Wp.fin (by simp [len_push, hr]) rfl (.inl ⟨rfl, rfl, ps1 ++ [.x ((h % 9 + 1 : Nat) : Int)], ⟨?_, ?_, ?_, ?_⟩, ?_⟩)
        · intro p hm
          rcases List.mem_append.1 hm with hm | hm
          · exact hok1 p hm
          · simp only [List.mem_cons, List.not_mem_nil, or_false] at hm
            subst hm
            exact ⟨by omega, by omega⟩
        · have e0 : ∀ m, fnum (.x m) = none := fun _ => rfl
          simpa [e0] using hpm1
        · simp; omega
        · simp; omega
        · simp [ps1, ptD, Pt.bytes]
      · exact Wp.fin (by simp [len_push, hr]) rfl (.inl ⟨rfl, rfl, ps1, ⟨hok1, hpm1, by omega, by omega⟩, rfl⟩)
    · rintro qs - ⟨ps', hv', rfl⟩
      refine Wp.op rfl (addI (r := ((i + 1 : Nat) : Int)) (by omega) (by omega) (by omega)) ?_
      exact Wp.fin (by simp [len_push, hr]) rfl (.inl ⟨rfl, rfl, ih (i + 1) ps' (by omega) (by omega) hv'⟩)
/-- the parts, one behind another one -/
def bytesD' (l : List Pt) : List D := (bytesL l).map u8
theorem loop31 {r : List D} {ps : List Pt} (hr : r.length = 54) (h53 : atR 54 r (.v 53) = some (.lst (ps.map ptD))) (hl : ps.length ≤ 20) :
    ∀ (k i : Nat), ps.length - i ≤ k → i ≤ ps.length → Wl F b3_1 54 r [n64 i, rowN (bytesD' (ps.take i))] (fun y rs => y = .exit 4 ∧ rs = [rowN (bytesD' ps)]) := by
  intro k
  have blen : ∀ l : List Pt, (bytesL l).length ≤ 8 * l.length := by
    intro l
    induction l with
    | nil => simp [bytesL]
    | cons p l ih =>
      have : p.bytes.length ≤ 8 := by cases p <;> simp [Pt.bytes]
      simp only [bytesL, List.flatMap_cons, List.length_append, List.length_cons] at *
      omega
  have fin : ∀ i : Nat, ps.length ≤ i → i ≤ ps.length → Wl F b3_1 54 r [n64 i, rowN (bytesD' (ps.take i))] (fun y rs => y = .exit 4 ∧ rs = [rowN (bytesD' ps)]) := by
    intro i hi hj
    have e : ps.take i = ps := List.take_of_length_le hi
    refine Wl.step ?_
    refine Wp.op (atsR1 (atR_cons (atR_cons h53 rfl) rfl)) (lenI (n := ps.length) (by simp)) ?_
    refine Wp.op rfl (lssF (by omega)) ?_
    refine Wp.iteF rfl ?_
    exact Wp.fin (by simp [len_push, hr]) rfl (.inr ⟨by simp, rfl, by rw [e]⟩)
  induction k with
  | zero => intro i hi hj; exact fin i (by omega) hj
  | succ k ih =>
    intro i hi hj
    by_cases hil : ps.length ≤ i
    · exact fin i hil hj
    have hlt : i < ps.length := by omega
    have e : ps.take (i + 1) = ps.take i ++ [ps[i]] := List.take_succ_eq_append_getElem hlt
    have e2 : bytesD' (ps.take (i + 1)) = bytesD' (ps.take i) ++ (ps[i]).bytes.map u8 := by rw [e]; simp only [bytesD', bytesL, List.flatMap_append, List.map_append, List.flatMap_cons, List.flatMap_nil, List.append_nil]
    have hne : (ps[i]).bytes.map u8 ≠ [] := by cases ps[i] <;> simp [Pt.bytes]
    have hb1 := blen (ps.take i)
    have hb2 : (ps[i]).bytes.length ≤ 8 := by cases ps[i] <;> simp [Pt.bytes]
    refine Wl.step ?_
    refine Wp.op (atsR1 (atR_cons (atR_cons h53 rfl) rfl)) (lenI (n := ps.length) (by simp)) ?_
    refine Wp.op rfl (lssT (by omega)) ?_
    refine Wp.iteT rfl ?_
    refine Wp.op (atsR2 (atR_cons (atR_cons (atR_cons (atR_cons h53 rfl) rfl) rfl) rfl) rfl) (elt_pt (n := i) rfl hlt) ?_
    refine Wp.op rfl rfl ?_
    refine Wp.op rfl (catRow hne (all_map fun _ => rfl) (by simp [bytesD'] at *; omega)) ?_
    refine Wp.op rfl (addI (r := ((i + 1 : Nat) : Int)) (by omega) (by omega) (by omega)) ?_
    refine Wp.fin (by simp [len_push, hr]) rfl (.inl ⟨rfl, rfl, ?_⟩)
    rw [← e2]
    exact ih (i + 1) (by omega) (by omega)
theorem catRowL {e b : Nat} {ag : Bool} {l r : List D} (hn : r ≠ []) (hr : r.all (rowOk e ag) = true) (hs : (l.length + r.length) * b ≤ 140737488355328) : copD (.pop (.cat e b ag)) [rowN l, .lst r] = some (.lst (l ++ r)) := by
  rw [catRow hn hr hs]
  cases l with
  | nil => cases r with
    | nil => exact absurd rfl hn
    | cons x r => rfl
  | cons x l => rfl
theorem begun_ok : Cv F 6 [] [.bool true] := .known rfl rfl
/-- the law's function -/
theorem law_ok {a b c d : Int} {H : List Nat} {dh : D} (ha : -128 ≤ a ∧ a ≤ 127) (hb : -128 ≤ b ∧ b ≤ 127) (hc : -128 ≤ c ∧ c ≤ 127) (hd : -128 ≤ d ∧ d ≤ 127) (hh : dh = rowN (H.map fun h : Nat => u8 (h : Int)) ∨ dh = .lst (H.map fun h : Nat => u8 (h : Int))) (hH : ∀ h ∈ H, h ≤ 255) :
    Cv F 3 [.agg [.int .i8 a, .int .i8 b, .int .i8 c, .int .i8 d], dh] [.bool true] := by
  have hlen : copD (.pop .len) [dh] = some (n64 H.length) := by
    rcases hh with rfl | rfl
    · rw [lenRow]; simp
    · exact lenI (by simp)
  refine Cv.wp1 rfl rfl rfl ?_
  iterate 4 refine Wp.op rfl rfl ?_
  refine Wp.call rfl begun_ok rfl rfl ?_
  refine Wp.op rfl (noI _) ?_
  refine Wp.iteF rfl ?_
  refine Wp.op rfl hlen ?_
  refine Wp.op rfl (gtrK _ _) ?_
  refine Wp.iteP rfl (fun h10 => ?_) (fun h10 => ?_)
  · exact Wp.fin rfl rfl ⟨rfl, rfl⟩
  have h8 : H.length ≤ 8 := by omega
  let av : Nat → Int := fun i => match i with | 0 => a | 1 => b | 2 => c | _ => d
  let ps0 : List Pt := [.f 0 a, .f 1 b, .f 2 c, .f 3 d]
  have iv0 : Inv av 0 ps0 := by
    refine ⟨?_, List.Perm.refl _, Nat.le_refl _, Nat.le_refl _⟩
    intro p hp
    simp only [ps0, List.mem_cons, List.not_mem_nil, or_false] at hp
    rcases hp with rfl | rfl | rfl | rfl <;> exact ⟨by omega, by omega, by omega⟩
  refine Wp.op rfl (convI .i64 (wrap64 (by omega) (by omega))) ?_
  iterate 3 refine Wp.op rfl rfl ?_
  refine Wp.op rfl (convU8 _) ?_
  iterate 5 refine Wp.op rfl rfl ?_
  refine Wp.op rfl (convI .i64 (wrap64 (by omega) (by omega))) ?_
  iterate 3 refine Wp.op rfl rfl ?_
  refine Wp.op rfl (convU8 _) ?_
  iterate 6 refine Wp.op rfl rfl ?_
  refine Wp.op rfl (convI .i64 (wrap64 (by omega) (by omega))) ?_
  iterate 3 refine Wp.op rfl rfl ?_
  refine Wp.op rfl (convU8 _) ?_
  iterate 6 refine Wp.op rfl rfl ?_
  refine Wp.op rfl (convI .i64 (wrap64 (by omega) (by omega))) ?_
  iterate 3 refine Wp.op rfl rfl ?_
  refine Wp.op rfl (convU8 _) ?_
  iterate 6 refine Wp.op rfl rfl ?_
  refine Wp.bindJ (fun rs => ∃ ps, Inv av 8 ps ∧ rs = [.lst (ps.map ptD)]) ?_ ?_
  · refine Wp.rounds rfl rfl ?_
    rcases Nat.eq_zero_or_pos H.length with h0 | h0
    · refine Wl.step ?_
      refine Wp.op rfl (lssF (by omega)) ?_
      refine Wp.iteF rfl ?_
      exact Wp.fin rfl rfl (.inr ⟨by simp, .inl ⟨rfl, rfl, ps0, ⟨iv0.ok, iv0.pm, iv0.lo, by show 4 ≤ 12; decide⟩, rfl⟩⟩)
    · have hdh : dh = .lst (H.map fun h : Nat => u8 (h : Int)) := by
        rcases hh with rfl | rfl
        · cases H with
          | nil => simp at h0
          | cons x l => rfl
        · rfl
      subst hdh
      refine Wl.mono (loop3 (av := av) (H := H) ?_ ?_ ?_ hH h8 H.length 0 ps0 (by omega) (Nat.zero_le _) iv0) fun y rs hq => .inl ⟨hq.1, by obtain ⟨ps, _, rfl⟩ := hq.2; rfl, hq.2⟩
      all_goals rfl
  rintro qs - ⟨ps, iv, rfl⟩
  have hlo := iv.lo
  have hhi := iv.hi
  have blen : (bytesL ps).length ≤ 8 * ps.length := by
    have : ∀ l : List Pt, (bytesL l).length ≤ 8 * l.length := by
      intro l
      induction l with
      | nil => simp [bytesL]
      | cons p l ih =>
        have : p.bytes.length ≤ 8 := by cases p <;> simp [Pt.bytes]
        simp only [bytesL, List.flatMap_cons, List.length_append, List.length_cons] at *
        omega
    exact this ps
  refine Wp.bind1 [rowN (bytesD' ps)] ?_ rfl rfl ?_
  · refine Wp.rounds rfl rfl ?_
    exact loop31 (r := _) rfl rfl (by omega) _ 0 (Nat.le_refl _) (Nat.zero_le _)
  refine Wp.op rfl (catRowL (r := [u8 0]) (by simp) rfl (by simp [bytesD']; omega)) ?_
  have eB : bytesD' ps ++ [u8 0] = (bytesL ps ++ [0]).map u8 := by simp [bytesD']
  rw [eB]
  refine Wp.op rfl (lenI (n := (bytesL ps ++ [0]).length) (by simp)) ?_
  refine Wp.op rfl rfl ?_
  let js := (ps.filterMap fnum).map Prod.fst
  have hq : ps.filterMap fnum = qOf av js := by
    have hm : ∀ x ∈ ps.filterMap fnum, (x.1, av x.1) = x := by
      intro x hx
      have := iv.pm.mem_iff.1 hx
      simp only [qOf, List.map_cons, List.map_nil, List.mem_cons, List.not_mem_nil, or_false] at this
      rcases this with rfl | rfl | rfl | rfl <;> rfl
    have key : ∀ l : List (Nat × Int), (∀ x ∈ l, (x.1, av x.1) = x) → l = qOf av (l.map Prod.fst) := by
      intro l
      induction l with
      | nil => intro _; rfl
      | cons x l ih =>
        intro h
        have h1 := h x (by simp)
        have h2 := ih fun y hy => h y (List.mem_cons_of_mem _ hy)
        simp only [qOf, List.map_cons] at h2 ⊢
        rw [h1, ← h2]
    exact key _ hm
  have hj : js ∈ perms := by
    refine perms_of ?_
    have := iv.pm.map Prod.fst
    simpa [qOf] using this
  refine Wp.call rfl (decode_ok (av := av) (ps := ps) (js := js) rfl rfl (by simp; omega) iv.ok hq hj) rfl rfl ?_
  iterate 5 refine Wp.op rfl rfl ?_
  refine Wp.bind1 [.bool true] ?_ rfl rfl ?_
  · refine Wp.op rfl (eqlKT rfl) ?_
    refine Wp.iteT rfl ?_
    refine Wp.op rfl (eqlKT rfl) ?_
    refine Wp.iteT rfl ?_
    refine Wp.op rfl rfl ?_
    refine Wp.call rfl (twin_ok av) rfl rfl ?_
    exact Wp.fin rfl rfl ⟨rfl, rfl⟩
  exact Wp.fin rfl rfl ⟨rfl, rfl⟩
end Go.Proofs.YtjofhegodknmaaaGreat.Tbf
