/- V, quickly: regions, code and calls. -/
import Derived.Test.YtillejiepbgkbaaGreatVL
set_option linter.unusedSimpArgs false
set_option linter.unusedVariables false
namespace Go.Proofs.YtillejiepbgkbaaGreat.V
open Go Go.RowKit

section
variable {P : Program} {an : An}
def T.setO (d : Option Pth) (u : U) (t : T) : T := match d with
  | some p => T.set u p t
  | none => t
def okDst (t0 : T) (od : Option Tmp) (d : Option Pth) : Bool := match od, d with
  | none, none => true
  | some i, some p => isIx t0 p i
  | _, _ => false
theorem dstK_eq {β : Type} (d : Option Pth) (u : U) (t : T) (k : T → β) : dstK d u t k = k (t.setO d u) := by
  cases d with
  | none => rfl
  | some p => exact setK_eq' u p t k
theorem dst_ok {t0 t : T} (hs : Shp t0 t) {od : Option Tmp} {d : Option Pth} (h : okDst t0 od d = true) (u : U) :
    (t.setO d u).toL = put t.toL od u ∧ Shp t0 (t.setO d u) := by
  cases od with
  | none =>
    cases d with
    | none => exact ⟨rfl, hs⟩
    | some p => simp [okDst] at h
  | some i =>
    cases d with
    | none => simp [okDst] at h
    | some p => exact set_ix u hs (isIx_eq h)
theorem fops_ok (hy : Shy an) {t0 : T} {ops : Array Oper} {base : Nat} {draw : Bool} : ∀ (l : List MO) (i : Nat) (t : T) (st : Store) (nx : Nat) (rs : List (Option CallRes)) (q : QS) (rs' : List (Option CallRes)),
    Shp t0 t → okL P t0 ops (ops.toList.drop i) l = true → fops P an ops base draw l i t st nx rs = some (q, rs') →
    Shp t0 q.t ∧ ∀ rs0, ∃ rs0', opers P an (l.length + 6) ops base (ops.toList.drop i) i ⟨t.toL, st, nx⟩ rs0 = some (⟨q.t.toL, q.st, q.nx⟩, rs0') ∧ (draw = true → rs0 = rs → rs0' = rs')
  | [], i, t, st, nx, rs, q, rs', hs, hk, h => by
    have hd : ops.toList.drop i = [] := by
      cases e : ops.toList.drop i with
      | nil => rfl
      | cons a r => rw [e] at hk; simp [okL] at hk
    have h' : (some (⟨t, st, nx⟩, rs) : Option (QS × List (Option CallRes))) = some (q, rs') := h
    simp only [Option.some.injEq, Prod.mk.injEq] at h'
    obtain ⟨rfl, rfl⟩ := h'
    refine ⟨hs, fun rs0 => ⟨rs0, ?_, fun _ e => e⟩⟩
    rw [hd]
    show opers P an (5 + 1) _ _ _ _ _ _ = _
    simp only [opers]
  | ⟨m, dst, gd⟩ :: l, i, t, st, nx, rs, q, rs', hs, hk, h => by
    cases hd : ops.toList.drop i with
    | nil => rw [hd] at hk; simp [okL] at hk
    | cons o rest =>
      rw [hd] at hk
      simp only [okL, Bool.and_eq_true] at hk
      obtain ⟨hmo, hrest⟩ := hk
      simp only [okMO, Bool.and_eq_true] at hmo
      obtain ⟨⟨hm, hdst'⟩, hgd⟩ := hmo
      have hdst : okDst t0 o.dst dst = true := hdst'
      have hlt : i < ops.toList.length := by
        by_cases hlt : i < ops.toList.length
        · exact hlt
        · rw [List.drop_eq_nil_of_le (by omega)] at hd; simp at hd
      have hcons := List.drop_eq_getElem_cons hlt
      rw [hd] at hcons
      simp only [List.cons.injEq] at hcons
      obtain ⟨ho, hr⟩ := hcons
      have hat : opAt ops i = o := by
        rw [ho]
        have : i < ops.size := by simpa using hlt
        simp [opAt, this]
      rw [hr] at hrest
      -- what is left, from a state on
      have next : ∀ (t1 : T) (st1 : Store) (nx1 : Nat) (rs1 : List (Option CallRes)), Shp t0 t1 → fops P an ops base draw l (i + 1) t1 st1 nx1 rs1 = some (q, rs') → Shp t0 q.t ∧ ∀ rs0, ∃ rs0', opers P an (l.length + 6) ops base rest (i + 1) ⟨t1.toL, st1, nx1⟩ rs0 = some (⟨q.t.toL, q.st, q.nx⟩, rs0') ∧ (draw = true → rs0 = rs1 → rs0' = rs') := by
        intro t1 st1 nx1 rs1 hs1 h1
        have := fops_ok hy l (i + 1) t1 st1 nx1 rs1 q rs' hs1 hrest h1
        rw [← hr] at this
        exact this
      -- the operation is carried out
      have go : wantedU ops t.toL o = some true → (match fop1 P an (opAt ops i) base i m t st nx with
          | some ⟨⟨u, rd, up⟩, nx', cl⟩ => fu u fun u => dstK dst u t fun t' => setAllF up st fun st' => forceN nx' fun nx' => fops P an ops base draw l (Nat.succ i) t' st' nx' (bif draw then rs ++ [some ⟨⟨u, rd, up⟩, nx', cl⟩] else rs)
          | none => none) = some (q, rs') →
          Shp t0 q.t ∧ ∀ rs0, ∃ rs0', opers P an ((⟨m, dst, gd⟩ :: l : List MO).length + 6) ops base (o :: rest) i ⟨t.toL, st, nx⟩ rs0 = some (⟨q.t.toL, q.st, q.nx⟩, rs0') ∧ (draw = true → rs0 = rs → rs0' = rs') := by
        intro hw h
        split at h
        · rename_i u rd up nx' cl hf
          rw [fu_eq, dstK_eq, setAllF_eq, forceN_eq] at h
          rw [hat] at hf
          have hop := fop1_ok hy hs hm hf (l.length + 1)
          obtain ⟨hd1, hd2⟩ := dst_ok hs hdst u
          obtain ⟨h1, h2⟩ := next _ _ _ _ hd2 h
          refine ⟨h1, fun rs0 => ?_⟩
          obtain ⟨rs0', h3, h4⟩ := h2 (rs0 ++ [some ⟨⟨u, rd, up⟩, nx', cl⟩])
          refine ⟨rs0', ?_, fun hdr e => h4 hdr (by subst hdr; subst e; rfl)⟩
          show opers P an (l.length + 6 + 1) _ _ _ _ _ _ = _
          simp only [opers, hw, forceN_eq]
          have e6 : l.length + 6 = l.length + 1 + 5 := by omega
          rw [e6, hop, ← e6]
          simp only [forceCR_eq, forceT_eq, putK_eq, storeK_eq]
          rw [← hd1]
          exact h3
        · simp at h
      have skip : wantedU ops t.toL o = some false → (dstK dst .undef t fun t' => fops P an ops base draw l (Nat.succ i) t' st nx (bif draw then rs ++ [none] else rs)) = some (q, rs') →
          Shp t0 q.t ∧ ∀ rs0, ∃ rs0', opers P an ((⟨m, dst, gd⟩ :: l : List MO).length + 6) ops base (o :: rest) i ⟨t.toL, st, nx⟩ rs0 = some (⟨q.t.toL, q.st, q.nx⟩, rs0') ∧ (draw = true → rs0 = rs → rs0' = rs') := by
        intro hw h
        rw [dstK_eq] at h
        obtain ⟨hd1, hd2⟩ := dst_ok hs hdst .undef
        obtain ⟨h1, h2⟩ := next _ _ _ _ hd2 h
        refine ⟨h1, fun rs0 => ?_⟩
        obtain ⟨rs0', h3, h4⟩ := h2 (rs0 ++ [none])
        refine ⟨rs0', ?_, fun hdr e => h4 hdr (by subst hdr; subst e; rfl)⟩
        show opers P an (l.length + 6 + 1) _ _ _ _ _ _ = _
        simp only [opers, hw, putK_eq]
        rw [← hd1]
        exact h3
      cases gd with
      | none =>
        have hg : o.guard = none := by
          cases e : o.guard with
          | none => rfl
          | some p => rw [e] at hgd; simp at hgd
        exact go (by unfold wantedU; rw [hg]) h
      | some pb =>
        obtain ⟨p, b⟩ := pb
        cases e : o.guard with
        | none => rw [e] at hgd; simp at hgd
        | some jc =>
          obtain ⟨j, c⟩ := jc
          rw [e] at hgd
          simp only [Bool.and_eq_true] at hgd
          have hcb := beqO_eq hgd.1
          subst hcb
          cases hdj : (ops[j]?).bind (·.dst) with
          | none => rw [hdj] at hgd; simp at hgd
          | some z =>
            rw [hdj] at hgd
            have hget := get_ix hs (isIx_eq hgd.2)
            have hwu : wantedU ops t.toL o = match t.get p with | .dat (.bool x) => some (x == c) | .undef => some false | _ => none := by
              unfold wantedU
              rw [e]
              simp only [hdj, Option.bind_some, hget]
              split
              · rename_i x hx; simp only [Option.some.injEq] at hx; rw [hx]
              · rename_i hx; simp only [Option.some.injEq] at hx; rw [hx]
              · rename_i h1 h2
                split
                · rename_i x hx; exact absurd (by rw [hx]) (h1 x)
                · rename_i hx; exact absurd (by rw [hx]) h2
                · rfl
            have h' : (match t.get p with
              | .dat (.bool x) => bif beqO x c then (match fop1 P an (opAt ops i) base i m t st nx with
                  | some ⟨⟨u, rd, up⟩, nx', cl⟩ => fu u fun u => dstK dst u t fun t' => setAllF up st fun st' => forceN nx' fun nx' => fops P an ops base draw l (Nat.succ i) t' st' nx' (bif draw then rs ++ [some ⟨⟨u, rd, up⟩, nx', cl⟩] else rs)
                  | none => none) else dstK dst .undef t fun t' => fops P an ops base draw l (Nat.succ i) t' st nx (bif draw then rs ++ [none] else rs)
              | .undef => dstK dst .undef t fun t' => fops P an ops base draw l (Nat.succ i) t' st nx (bif draw then rs ++ [none] else rs)
              | _ => none) = some (q, rs') := h
            split at h'
            · rename_i x hx
              have hwu : wantedU ops t.toL o = some (x == c) := by rw [hwu, hx]
              cases hb : beqO x c with
              | true =>
                rw [hb] at h'
                have := beqO_eq hb
                exact go (by rw [hwu, this]; simp) h'
              | false =>
                rw [hb] at h'
                have hne : (x == c) = false := by cases x <;> cases c <;> first | rfl | simp [beqO] at hb
                exact skip (by rw [hwu, hne]) h'
            · rename_i hx
              exact skip (by rw [hwu, hx]) h'
            · simp at h'

/-- facts speak of names alone -/
theorem shy_orcOf {l : List Fact} {an : An} (h : an.orc = orcOf l) : Shy an := by
  refine ⟨fun op t ds ho hn => ?_, fun x => ?_, fun x => ?_, fun t x => ?_, fun c x y => ?_, fun t x y => ?_, fun c f hf => ?_⟩ <;> rw [h] at *
  · have two : ∀ a b : D, ds = [a, b] → (isSym a || isSym b) = false := by
      intro a b e
      subst e
      simp only [List.all_cons, List.all_nil, Bool.and_true, Bool.and_eq_true, Bool.not_eq_true'] at hn
      rw [hn.1, hn.2]
      rfl
    have one : ∀ a : D, ds = [a] → isSym a = false := by
      intro a e
      subst e
      simpa using hn
    unfold orcOf at ho
    split at ho
    · obtain rfl := Option.some.inj ho
      simp only
      split
      · rename_i a b; simp [two a b rfl]
      · rfl
    · obtain rfl := Option.some.inj ho
      simp only
      split
      · rename_i a; simp [one a rfl]
      · rfl
    · split at ho
      · obtain rfl := Option.some.inj ho
        simp only
        split
        · rename_i _ _ a b _; simp [two a b rfl]
        · rfl
      · simp at ho
    · simp at ho
  · rfl
  · rfl
  · rfl
  · rfl
  · rfl
  · unfold orcOf; simp only [hf]

theorem argsK_some {γ : Type} {y : γ} {t0 : T} : ∀ {us : List U} {ap : List Pth} {i : Nat} {t : T} {k : T → Option γ}, Shp t0 t → okAp t0 i ap = true → i ≤ t.toL.length → argsK us ap t k none = some y →
    ∃ t', Shp t0 t' ∧ t'.toL = t.toL.take i ++ us ++ t.toL.drop (i + us.length) ∧ k t' = some y
  | [], ap, i, t, k, hs, hk, hi, h => ⟨t, hs, by simp, h⟩
  | u :: us, [], i, t, k, hs, hk, hi, h => by simp [argsK] at h
  | u :: us, p :: ap, i, t, k, hs, hk, hi, h => by
    simp only [okAp, Bool.and_eq_true] at hk
    have h' : (fu u fun u => T.setK u p t fun t => argsK us ap t k none) = some y := h
    rw [fu_eq, setK_eq'] at h'
    have hix := isIx_eq hk.1
    obtain ⟨h1, h2⟩ := set_ix u hs hix
    have hlt : i < t.toL.length := by rw [hs.len]; exact ix_lt hix
    obtain ⟨t', h3, h4, h5⟩ := argsK_some (i := i + 1) h2 hk.2 (by rw [h1, List.length_set]; omega) h'
    refine ⟨t', h3, ?_, h5⟩
    rw [h4, h1]
    rw [List.set_eq_take_append_cons_drop, if_pos hlt]
    have e1 : (t.toL.take i).length = i := by simp; omega
    have e2 : (t.toL.take i ++ u :: t.toL.drop (i + 1)).take (i + 1) = t.toL.take i ++ [u] := by
      rw [List.take_append, e1, List.take_of_length_le (by omega)]
      have : i + 1 - i = 1 := by omega
      rw [this]
      rfl
    have e3 : (t.toL.take i ++ u :: t.toL.drop (i + 1)).drop (i + 1 + us.length) = t.toL.drop (i + (u :: us).length) := by
      rw [List.drop_append, e1, List.drop_eq_nil_of_le (by omega)]
      have : i + 1 + us.length - i = us.length + 1 := by omega
      rw [this, List.drop_succ_cons, List.drop_drop]
      simp only [List.nil_append, List.length_cons]
      congr 1
      omega
    rw [e2, e3]
    simp
theorem fress_some {g : Nat → Option Obj} {t0 t : T} (hs : Shp t0 t) : ∀ {rvs : List ResultVar} {l : List RV} {k : List U → Option (U × Store × Nat)} {y : U × Store × Nat}, okRs P t0 rvs l = true → fress P g t l k = some y → ∃ us, rvs.mapM (resU P g t.toL) = some us ∧ k us = some y
  | [], [], k, y, _, h => ⟨[], rfl, h⟩
  | .tmp i :: r, .tmp p :: q, k, y, hk, h => by
    simp only [okRs, Bool.and_eq_true] at hk
    have h' : (fu (t.get p) fun u => fress P g t q fun us => k (u :: us)) = some y := h
    rw [fu_eq] at h'
    obtain ⟨us, h1, h2⟩ := fress_some hs hk.2 h'
    refine ⟨t.get p :: us, ?_, h2⟩
    have h3 : resU P g t.toL (.tmp i) = some (t.get p) := get_ix hs (isIx_eq hk.1)
    rw [List.mapM_cons, h1, h3]
    rfl
  | .cell a ty :: r, .cell p ty' n ag :: q, k, y, hk, h => by
    simp only [okRs, Bool.and_eq_true] at hk
    obtain ⟨⟨⟨⟨⟨h1, h2⟩, h3⟩, h4⟩, h5⟩, h6⟩ := hk
    have := Nat.eq_of_beq_eq_true h2
    subst this
    have h' : (match fload g n ag (t.get p) with
        | some r => fu r.u fun u => fress P g t q fun us => k (u :: us)
        | none => match opLoad P g ty (t.get p) with
          | some r => forceU r.u fun u => fress P g t q fun us => k (u :: us)
          | none => none) = some y := h
    have hget := get_ix hs (isIx_eq h1)
    split at h'
    · rename_i r' hr
      rw [fu_eq] at h'
      obtain ⟨us, h7, h8⟩ := fress_some hs h6 h'
      refine ⟨r'.u :: us, ?_, h8⟩
      have h9 : resU P g t.toL (.cell a ty) = some r'.u := by
        show (t.toL[a]?).bind (fun u => (opLoad P g ty u).map (·.u)) = _
        rw [hget, Option.bind_some, fload_ok (isSize_eq h3) (isAgg_eq h4) h5 hr]
        rfl
      rw [List.mapM_cons, h7, h9]
      rfl
    · split at h'
      · rename_i r' hr
        rw [forceU_eq] at h'
        obtain ⟨us, h7, h8⟩ := fress_some hs h6 h'
        refine ⟨r'.u :: us, ?_, h8⟩
        have h9 : resU P g t.toL (.cell a ty) = some r'.u := by
          show (t.toL[a]?).bind (fun u => (opLoad P g ty u).map (·.u)) = _
          rw [hget, Option.bind_some, hr]
          rfl
        rw [List.mapM_cons, h7, h9]
        rfl
      · simp at h'
  | [], _ :: _, k, y, hk, h | _ :: _, [], k, y, hk, h => by simp [okRs] at hk
  | .tmp _ :: _, .cell .. :: _, k, y, hk, h | .cell .. :: _, .tmp _ :: _, k, y, hk, h => by simp [okRs] at hk

theorem fgc_some {us : List U} {st0 st : Store} {k : Store → Option (U × Store × Nat)} {y : U × Store × Nat} (h : fgc us st0 st k = some y) :
    k st = some y ∨ ∃ ids, closed (getO st) ids = true ∧ (∀ x ∈ refsL us, x ∈ ids) ∧ (∀ x, getO st0 x ≠ none → x ∈ ids) ∧ k (subStore (getO st) ids) = some y := by
  unfold fgc at h
  rw [keysR_eq] at h
  have hkeys : ∀ x, getO st0 x ≠ none → x ∈ st0.map (·.1) := by
    intro x hx
    cases e : getO st0 x with
    | none => exact absurd e hx
    | some ob => exact getO_mem e
  split at h
  · rename_i hl
    rw [refsR_eq] at hl
    obtain ⟨h1, h2⟩ := List.append_eq_nil_iff.1 hl
    refine .inr ⟨[], rfl, by rw [h1]; simp, fun x hx => by have := hkeys x hx; rw [h2] at this; exact this, h⟩
  · rename_i l hl
    rw [forceNs_eq, reachR_eq, closedR_eq, subR_eq, getF_fun, subSt_eq] at h
    rw [Bool.cond_eq_ite] at h
    split at h
    · rename_i hb
      rw [Bool.and_eq_true, List.all_eq_true (l := refsR us (st0.map (·.1)))] at hb
      refine .inr ⟨_, hb.1, fun x hx => ?_, fun x hx => ?_, h⟩
      · have := hb.2 x (by rw [refsR_eq]; exact List.mem_append_left _ hx)
        simpa using this
      · have := hb.2 x (by rw [refsR_eq]; exact List.mem_append_right _ (hkeys x hx))
        simpa using this
    · exact .inl h
theorem tab_get : ∀ {tab : TT} {f : Nat} {ff : FFun}, TabOk P tab → tab.get f = some ff → FunOk P f ff
  | .e, f, ff, _, h => by simp [TT.get] at h
  | .leaf g x, f, ff, hk, h => by
    have h' : (bif Nat.beq g f then some x else none) = some ff := h
    replace h' := cond_some h'
    obtain ⟨h1, h2⟩ := h'
    have := Nat.eq_of_beq_eq_true h1
    subst this
    obtain rfl := Option.some.inj h2
    exact hk
  | .node m a b, f, ff, hk, h => by
    have h' : (bif Nat.blt f m then a.get f else b.get f) = some ff := h
    cases e : Nat.blt f m with
    | true => rw [e] at h'; exact tab_get hk.1 h'
    | false => rw [e] at h'; exact tab_get hk.2 h'

variable [Sig]
theorem frounds_ok {c : Code} {t0 : T} {f : QS → Option (X × QS)} (hf : ∀ s x s', Shp t0 s.t → f s = some (x, s') → Run P c ⟨s.t.toL, s.st, s.nx⟩ x ⟨s'.t.toL, s'.st, s'.nx⟩ ∧ Shp t0 s'.t) :
    ∀ (n : Nat) (s : QS) (x : X) (s' : QS), Shp t0 s.t → frounds f n s = some (x, s') → LRun P c ⟨s.t.toL, s.st, s.nx⟩ x ⟨s'.t.toL, s'.st, s'.nx⟩ ∧ Shp t0 s'.t
  | 0, s, x, s', hs, h => by simp [frounds] at h
  | n + 1, s, x, s', hs, h => by
    have h' : (match f s with
      | some (x, s1) => match x with
        | .normal => frounds f n s1
        | x => some (x, s1)
      | none => none) = some (x, s') := h
    split at h'
    · rename_i x1 s1 h1
      obtain ⟨hr, hs1⟩ := hf s x1 s1 hs h1
      cases x1 with
      | normal =>
        obtain ⟨h2, h3⟩ := frounds_ok hf n s1 x s' hs1 h'
        exact ⟨LRun.step hr h2, h3⟩
      | exit id =>
        simp only [Option.some.injEq, Prod.mk.injEq] at h'
        obtain ⟨rfl, rfl⟩ := h'
        exact ⟨LRun.out hr (by simp), hs1⟩
      | ret =>
        simp only [Option.some.injEq, Prod.mk.injEq] at h'
        obtain ⟨rfl, rfl⟩ := h'
        exact ⟨LRun.out hr (by simp), hs1⟩
    · simp at h'
theorem fexec_ok (hN : Good P an) (hR : RegsP P) (hm : P.follows .mixedOrders = true) (hy : Shy an) {t0 : T} : ∀ (c : FC) (s : QS) (x : X) (s' : QS), Regs (deC c) → okFC P t0 c = true → Shp t0 s.t → fexec P an c s = some (x, s') →
    Run P (deC c) ⟨s.t.toL, s.st, s.nx⟩ x ⟨s'.t.toL, s'.st, s'.nx⟩ ∧ Shp t0 s'.t
  | .skip, s, x, s', hg, hk, hs, h => by
    have h' : (some (.normal, s) : Option (X × QS)) = some (x, s') := h
    simp only [Option.some.injEq, Prod.mk.injEq] at h'
    obtain ⟨rfl, rfl⟩ := h'
    exact ⟨Run.skip hN hR hm, hs⟩
  | .exit id, s, x, s', hg, hk, hs, h => by
    have h' : (some (.exit id, s) : Option (X × QS)) = some (x, s') := h
    simp only [Option.some.injEq, Prod.mk.injEq] at h'
    obtain ⟨rfl, rfl⟩ := h'
    exact ⟨Run.exit hN hR hm, hs⟩
  | .ret, s, x, s', hg, hk, hs, h => by
    have h' : (some (.ret, s) : Option (X × QS)) = some (x, s') := h
    simp only [Option.some.injEq, Prod.mk.injEq] at h'
    obtain ⟨rfl, rfl⟩ := h'
    exact ⟨Run.ret hN hR hm, hs⟩
  | .seq a b, s, x, s', hg, hk, hs, h => by
    have h' : (match fexec P an a s with
      | some (x, s1) => match x with
        | .normal => fexec P an b s1
        | x => some (x, s1)
      | none => none) = some (x, s') := h
    simp only [okFC, Bool.and_eq_true] at hk
    have hg' : Regs (deC a) ∧ Regs (deC b) := hg
    split at h'
    · rename_i x1 s1 h1
      obtain ⟨hr, hs1⟩ := fexec_ok hN hR hm hy a s x1 s1 hg'.1 hk.1 hs h1
      cases x1 with
      | normal =>
        obtain ⟨h2, h3⟩ := fexec_ok hN hR hm hy b s1 x s' hg'.2 hk.2 hs1 h'
        exact ⟨Run.seq hr h2, h3⟩
      | exit id =>
        simp only [Option.some.injEq, Prod.mk.injEq] at h'
        obtain ⟨rfl, rfl⟩ := h'
        exact ⟨Run.seq_out hr (by simp), hs1⟩
      | ret =>
        simp only [Option.some.injEq, Prod.mk.injEq] at h'
        obtain ⟨rfl, rfl⟩ := h'
        exact ⟨Run.seq_out hr (by simp), hs1⟩
    · simp at h'
  | .cond a y b c, s, x, s', hg, hk, hs, h => by
    have h' : (match a.ev s.t with
      | .dat (.bool t) => (Bool.rec (motive := fun _ => Option (X × QS)) (fexec P an c s) (fexec P an b s) t)
      | _ => none) = some (x, s') := h
    simp only [okFC, Bool.and_eq_true] at hk
    have hg' : Regs (deC b) ∧ Regs (deC c) := hg
    have hev := okA_ev hs hk.1.1
    split at h'
    · rename_i t ht
      rw [ht] at hev
      cases t with
      | true =>
        obtain ⟨h2, h3⟩ := fexec_ok hN hR hm hy b s x s' hg'.1 hk.1.2 hs h'
        exact ⟨Run.cond_true hev h2, h3⟩
      | false =>
        obtain ⟨h2, h3⟩ := fexec_ok hN hR hm hy c s x s' hg'.2 hk.2 hs h'
        exact ⟨Run.cond_false hev h2, h3⟩
    · simp at h'
  | .block id b, s, x, s', hg, hk, hs, h => by
    have h' : (match fexec P an b s with
      | some (x, s1) => match x with
        | .exit j => bif Nat.beq j id then some (.normal, s1) else some (.exit j, s1)
        | x => some (x, s1)
      | none => none) = some (x, s') := h
    have hg' : Regs (deC b) := hg
    split at h'
    · rename_i x1 s1 h1
      obtain ⟨hr, hs1⟩ := fexec_ok hN hR hm hy b s x1 s1 hg' hk hs h1
      have hb := hr.block (id := id)
      cases x1 with
      | normal =>
        simp only [Option.some.injEq, Prod.mk.injEq] at h'
        obtain ⟨rfl, rfl⟩ := h'
        exact ⟨by show Run P (.block _ (deC b)) _ _ _; simpa using hb, hs1⟩
      | ret =>
        simp only [Option.some.injEq, Prod.mk.injEq] at h'
        obtain ⟨rfl, rfl⟩ := h'
        exact ⟨by show Run P (.block _ (deC b)) _ _ _; simpa using hb, hs1⟩
      | exit j =>
        simp only at h'
        by_cases e : j = id
        · subst e
          simp only [Nat.beq_refl, cond_true, Option.some.injEq, Prod.mk.injEq] at h'
          obtain ⟨rfl, rfl⟩ := h'
          exact ⟨by show Run P (.block _ (deC b)) _ _ _; simpa using hb, hs1⟩
        · rw [beqN_ne e] at h'
          simp only [cond_false, Option.some.injEq, Prod.mk.injEq] at h'
          obtain ⟨rfl, rfl⟩ := h'
          have e' : ¬ X.exit j = X.exit id := fun h => e (by injection h)
          rw [if_neg e'] at hb
          exact ⟨hb, hs1⟩
    · simp at h'
  | .loop b, s, x, s', hg, hk, hs, h => by
    have h' : frounds (fexec P an b) 1000000 s = some (x, s') := h
    have hg' : Regs (deC b) := hg
    obtain ⟨h1, h2⟩ := frounds_ok (P := P) (c := deC b) (t0 := t0) (fun s x s' hs h => fexec_ok hN hR hm hy b s x s' hg' hk hs h) 1000000 s x s' hs h'
    exact ⟨Run.loop h1, h2⟩
  | .gap c, s, x, s', hg, hk, hs, h => by simp [fexec] at h
  | .reg id ops draw l, ⟨t, st, nx⟩, x, s', hg, hk, hs, h => by
    have h' : (match fops P an ops nx draw l 0 t st (Nat.add nx (Nat.mul 8 ops.size)) [] with
      | some (s1, rs) => bif !draw || regionOk ops rs then some (.normal, s1) else none
      | none => none) = some (x, s') := h
    split at h'
    · rename_i s1 rs h1
      replace h' := cond_some h'
      obtain ⟨hd, h'⟩ := h'
      simp only [Option.some.injEq, Prod.mk.injEq] at h'
      obtain ⟨rfl, rfl⟩ := h'
      obtain ⟨h2, h3⟩ := fops_ok (P := P) hy (t0 := t0) l 0 t st _ [] s1 rs hs (by rw [List.drop_zero]; exact hk) h1
      obtain ⟨rs0', h4, h5⟩ := h3 []
      refine ⟨Run.of_exec hN hR hm (k := l.length + 7) hg ?_, h2⟩
      show exec P an (l.length + 6 + 1) (.region id ops draw) _ = _
      simp only [exec, forceN_eq]
      rw [List.drop_zero] at h4
      have e0 : ({ tm := t.toL, st := st, nx := nx + 8 * ops.size } : St) = ⟨t.toL, st, Nat.add nx (Nat.mul 8 ops.size)⟩ := rfl
      rw [e0, h4]
      have hd' : (!draw || regionOk ops rs0') = true := by
        cases draw with
        | false => rfl
        | true => rw [h5 rfl rfl]; exact hd
      simp only [hd', if_true]
    · simp at h'

/-- Objects that are not needed are forgotten. -/
theorem CallHolds.sub {f : Nat} {us : List U} {st : Store} {nx : Nat} {u : U} {st1 : Store} (h : CallHolds P f us st nx u st1) {ids : List Nat} (hcl : closed (getO st1) ids = true) (hu : ∀ x ∈ refs u, x ∈ ids) (hst : ∀ x, getO st x ≠ none → x ∈ ids) :
    CallHolds P f us st nx u (subStore (getO st1) ids) := by
  refine ⟨h.body, fun w F L b0 vs hS hA hf hb => Calls.mono (h.calls w F L b0 vs hS hA hf hb) fun e w' hp => ?_⟩
  obtain ⟨v, F', L', rfl, hE, hS', hr⟩ := hp
  refine ⟨v, F', cutL L' ids, rfl, ⟨hE.size, hE.os, hE.tape, hE.output, hE.memLe, fun o i hi => ?_, hE.frame, hE.newMem, fun o i hi => ?_⟩, hS'.cut hcl, hr.cut hu⟩
  · have hin : o ∈ ids := hst o fun e => by rw [hS.non o e] at hi; simp at hi
    obtain ⟨i', hi', hr⟩ := hE.layLe o i hi
    exact ⟨i', by simp [cutL, hin, hi'], hr⟩
  · unfold cutL at hi
    split at hi
    · exact hE.newObj o i hi
    · simp at hi
theorem fcall_ok (hN : Good P an) (hR : RegsP P) (hm : P.follows .mixedOrders = true) (hy : Shy an) {tab : TT} (ht : TabOk P tab) : ∀ (k f : Nat) (us : List U) (st : Store) (nx : Nat) (u : U) (st' : Store) (nx' : Nat), fcall P an tab k f us st nx = some (u, st', nx') → CallHolds P f us st nx u st'
  | 0, f, us, st, nx, u, st', nx', h => by simp [fcall] at h
  | k + 1, f, us, st, nx, u, st', nx', h => by
    have h0 : (match an.call f us st nx with
      | some r => some r
      | none =>
        match tab.get f with
        | none => none
        | some ⟨n, t0, ap, code, res⟩ =>
          argsK us ap t0 (fun t =>
            match fexec P { an with call := fcall P an tab k } code ⟨t, st, nx⟩ with
            | some (x, ⟨t', st', nx'⟩) =>
              match x with
              | .exit _ => none
              | _ => fress P (getF st') t' res fun us' =>
                match us' with
                | [u] => fgc [u] st st' fun st2 => some (u, st2, nx')
                | l => fgc l st st' fun st2 => some (.tup l, st2, nx')
            | none => none) none) = some (u, st', nx') := h
    clear h
    split at h0
    · rename_i r hc
      obtain rfl := Option.some.inj h0
      exact hN.call _ _ _ _ _ _ _ hc
    · split at h0
      · simp at h0
      · rename_i n t0 ap code res hg
        obtain ⟨fn, c, hfn, hbody, hc, hn, hok⟩ := tab_get ht hg
        unfold okF at hok
        simp only [Bool.and_eq_true] at hok
        obtain ⟨⟨⟨⟨h1, h2⟩, h3⟩, h4⟩, h5⟩ := hok
        have h1 := beqUs_eq _ _ h1
        simp only at h1 h2 h3 h4 h5 hc hn
        obtain ⟨t, hs, htl, h⟩ := argsK_some (Shp.refl t0) h2 (Nat.zero_le _) h0
        clear h0
        simp only [List.take_zero, List.nil_append, Nat.zero_add] at htl
        rw [h1, List.drop_replicate, ← hn] at htl
        have hN' : Good P { an with call := fcall P an tab k } := ⟨hN.named, hN.spec, hN.orc, fun f us st nx u st' nx' hh => fcall_ok hN hR hm hy ht k f us st nx u st' nx' hh⟩
        have hy' : Shy { an with call := fcall P an tab k } := ⟨hy.no, hy.mv, hy.as, hy.bx, hy.pk, hy.st, hy.cl⟩
        have hregs : Regs (deC code) := by rw [← hc]; exact hR f fn c hfn hbody
        split at h
        · rename_i x t' st1 nx1 hx
          obtain ⟨hrun, hs'⟩ := fexec_ok hN' hR hm hy' (t0 := t0) code ⟨t, st, nx⟩ x ⟨t', st1, nx1⟩ hregs h5 hs hx
          simp only at hrun hs'
          rw [htl, ← hc] at hrun
          have key : (x = .normal ∨ x = .ret) ∧ (fress P (getF st1) t' res fun us' =>
                match us' with
                | [u] => fgc [u] st st1 fun st2 => some (u, st2, nx1)
                | l => fgc l st st1 fun st2 => some (.tup l, st2, nx1)) = some (u, st', nx') := by
            cases x with
            | normal => exact ⟨.inl rfl, h⟩
            | ret => exact ⟨.inr rfl, h⟩
            | exit j => simp at h
          obtain ⟨hxx, h⟩ := key
          rw [getF_fun] at h
          obtain ⟨rs, hrs, h⟩ := fress_some hs' h4 h
          have hC := CallHolds.of_run hfn hbody hrun hxx hrs
          simp only at hC
          have fin : ∀ (l : List U) (v : U), resL rs = v → (∀ x, x ∈ refs v → x ∈ refsL l) → (fgc l st st1 fun st2 => some (v, st2, nx1)) = some (u, st', nx') → CallHolds P f us st nx u st' := by
            intro l v hv hrf hh
            rcases fgc_some hh with hh | ⟨ids, hcl, hu, hst, hh⟩
            · simp only [Option.some.injEq, Prod.mk.injEq] at hh
              obtain ⟨rfl, rfl, rfl⟩ := hh
              rw [← hv]
              exact hC
            · simp only [Option.some.injEq, Prod.mk.injEq] at hh
              obtain ⟨rfl, rfl, rfl⟩ := hh
              have := hC.sub hcl (by rw [hv]; exact fun x hx => hu x (hrf x hx)) hst
              rw [hv] at this
              exact this
          split at h
          · rename_i u1
            exact fin [u1] u1 rfl (fun x hx => by simp only [refsL, List.append_nil]; exact hx) h
          · rename_i hne
            refine fin rs (.tup rs) ?_ (fun x hx => by simpa only [refs] using hx) h
            unfold resL
            split
            · rename_i u1; exact absurd rfl (hne u1)
            · rfl
        · simp at h

/-- a law's -/
theorem law_fcall (hN : Good P an) (hR : RegsP P) (hm : P.follows .mixedOrders = true) (hy : Shy an) {tab : TT} (ht : TabOk P tab) {k f : Nat} {us : List U} {vs : List Value} {W : World} (h : yes (fcall P an tab k f us [] 0) = true) (hA : Args (memOf W) none0 us vs) :
    Calls P f vs.toArray W fun e W' => e = .returned (.bool true) ∧ Below W.heap.size W W' := by
  cases hp : fcall P an tab k f us [] 0 with
  | none => rw [hp] at h; simp [yes] at h
  | some q =>
    obtain ⟨u, st, nx⟩ := q
    rw [hp] at h
    have hu : u = .dat (.bool true) := by
      unfold yes at h
      split at h
      · rename_i b _ _ heq
        subst h
        simp only [Option.some.injEq, Prod.mk.injEq] at heq
        exact heq.1
      · simp at h
    subst hu
    have hC := fcall_ok hN hR hm hy ht k f us [] 0 _ st nx hp
    refine Calls.mono (hC.calls W (memOf W) none0 W.heap.size vs (SR.whole W) hA (fun _ _ => rfl) (Nat.le_refl _)) fun e W' he => ?_
    obtain ⟨v, F', L', rfl, hE, hS, hr⟩ := he
    cases hr with
    | dat _ _ hr => cases hr; exact ⟨rfl, hE.below⟩
/-- a row of a table, by a quick run -/
noncomputable def fpcs (P : Program) (an : An) (tab : TT) (k f : Nat) (ds : List D) : Option (List D) :=
  match forceDs ds fun ds => fcall P an tab k f (ds.map .dat) [] 0 with
  | some (.tup l, st, _) => if l.length = 1 then none else (l.mapM (toD (getO st) 40)).map fun r => r.map (·.1)
  | some (u, st, _) => (toD (getO st) 40 u).map fun r => [r.1]
  | none => none
noncomputable def ftells (P : Program) (an : An) (tab : TT) (k f : Nat) (ds rs : List D) : Bool :=
  match fpcs P an tab k f ds with
  | some r => beqDs r rs
  | none => false
theorem holds_of_ftells (hN : Good P an) (hR : RegsP P) (hm : P.follows .mixedOrders = true) (hy : Shy an) {tab : TT} (ht : TabOk P tab) {k f : Nat} {ds rs : List D} (h : ftells P an tab k f ds rs = true) : Holds P f ds rs := by
  unfold ftells at h
  split at h
  · rename_i r hr
    obtain rfl := beqDs_eq r rs h
    simp only [fpcs, forceDs_eq] at hr
    split at hr
    · rename_i l st nx hp
      split at hr
      · simp at hr
      rename_i hl1
      obtain ⟨ds', hds', rfl⟩ := Option.map_eq_some_iff.1 hr
      have hC := fcall_ok hN hR hm hy ht k f _ [] 0 _ st nx hp
      refine ⟨hC.body, fun w F vs hF hA => ?_⟩
      have hS : SR w F none0 w.heap.size (getO []) := ⟨hF, fun _ _ => rfl, fun o ob h => by simp [getO] at h, fun o o' i i' h => by simp [none0] at h⟩
      refine Calls.mono (hC.calls w F none0 w.heap.size vs hS hA (fun _ _ => rfl) (Nat.le_refl _)) fun e w' he => ?_
      obtain ⟨v, F', L', rfl, hE, hS', hr'⟩ := he
      have hs := hS'.snapped (ds'.flatMap (·.2))
      refine ⟨v, _, L', rfl, hE.trans hs.2, hs.1.mem, ?_⟩
      cases hr' with
      | tup _ vals hl hRR =>
        have hel : ∀ (i : Nat) u v, ((ds'.map (·.1)).map U.dat)[i]? = some u → vals[i]? = some v → RepU (FS F' w' L' (getO st) (ds'.flatMap (·.2))) none0 u v := by
          intro i u v hu hv
          rw [List.map_map, List.getElem?_map] at hu
          obtain ⟨d, hd, rfl⟩ := Option.map_eq_some_iff.1 hu
          obtain ⟨y, hy, hyd⟩ := mapM_back hds' hd
          exact .dat _ _ ((toD_rep hS' 40 y v d hyd (hRR i y v hy hv)).mono (FS_mono fun z hz => List.mem_flatMap.2 ⟨d, List.mem_of_getElem? hd, hz⟩))
        have hne : resD (ds'.map (·.1)) = .tup ((ds'.map (·.1)).map U.dat) := by
          have hl2 : (ds'.map (·.1)).length ≠ 1 := by rw [List.length_map, (mapM_some hds').1]; exact hl1
          unfold resD
          split
          · rename_i d e; rw [e] at hl2; simp at hl2
          · rfl
        rw [hne]
        exact .tup _ _ (by rw [List.length_map, List.length_map, (mapM_some hds').1]; exact hl) hel
    · rename_i u st nx hnt hp
      obtain ⟨d, hd, rfl⟩ := Option.map_eq_some_iff.1 hr
      have hC := fcall_ok hN hR hm hy ht k f _ [] 0 _ st nx hp
      refine ⟨hC.body, fun w F vs hF hA => ?_⟩
      have hS : SR w F none0 w.heap.size (getO []) := ⟨hF, fun _ _ => rfl, fun o ob h => by simp [getO] at h, fun o o' i i' h => by simp [none0] at h⟩
      refine Calls.mono (hC.calls w F none0 w.heap.size vs hS hA (fun _ _ => rfl) (Nat.le_refl _)) fun e w' he => ?_
      obtain ⟨v, F', L', rfl, hE, hS', hr'⟩ := he
      have hs := hS'.snapped d.2
      exact ⟨v, _, L', rfl, hE.trans hs.2, hs.1.mem, .dat _ _ (toD_rep hS' 40 u v d hd hr')⟩
    · simp at hr
  · simp at h
end
end Go.Proofs.YtillejiepbgkbaaGreat.V
