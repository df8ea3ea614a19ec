/- V, quickly: operations together. -/
import Derived.Test.YtillejiepbgkbaaGreatVJ
set_option linter.unusedSimpArgs false
set_option linter.unusedVariables false
namespace Go.Proofs.YtillejiepbgkbaaGreat.V
open Go Go.RowKit

theorem toList_data (s : ByteArray) : s.toList = s.data.toList := by
  have loop : ∀ (n i : Nat) (r : List UInt8), s.size - i = n → ByteArray.toList.loop s i r = r.reverse ++ s.data.toList.drop i := by
    intro n
    induction n with
    | zero =>
      intro i r h
      unfold ByteArray.toList.loop
      rw [if_neg (by omega)]
      rw [List.drop_eq_nil_of_le (by have : s.data.toList.length = s.size := rfl; omega)]
      simp
    | succ n ih =>
      intro i r h
      unfold ByteArray.toList.loop
      rw [if_pos (by omega), ih (i + 1) _ (by omega)]
      have hlt : i < s.data.toList.length := by have : s.data.toList.length = s.size := rfl; omega
      rw [List.drop_eq_getElem_cons hlt]
      have : s.get! i = s.data.toList[i] := by
        have hlt' : i < s.data.size := by simpa using hlt
        simp only [ByteArray.get!]
        exact getElem!_pos s.data i hlt'
      rw [this]
      simp
  have := loop s.size 0 [] (by omega)
  simpa [ByteArray.toList] using this
/-- What is known of operations speaks of names alone. -/
structure Shy (an : An) : Prop where
  no : ∀ op t ds, an.orc op = some t → ds.all (fun d => !isSym d) = true → t ds = none
  mv : ∀ x, an.orc (.move x) = none
  as : ∀ x, an.orc (.assign x) = none
  bx : ∀ t x, an.orc (.box t x) = none
  pk : ∀ c x y, an.orc (.pick c x y) = none
  st : ∀ t x y, an.orc (.store t x y) = none
  cl : ∀ c f, c.callee = .value f → an.orc (.call c) = none
theorem Shy.none {an : An} (h : an.orc = fun _ => Option.none) : Shy an := by
  refine ⟨fun op t ds ho => ?_, fun x => ?_, fun x => ?_, fun t x => ?_, fun c x y => ?_, fun t x y => ?_, fun c f hf => ?_⟩ <;> rw [h] at * <;> first | rfl | simp at ho

section
variable {P : Program} {an : An} {g : Nat → Option Obj} {id : Nat} {t0 t : T} {o : Oper} {r : Res}
theorem orcU_none (h : an.orc o.op = none) {tm : List U} : orcU an tm o = none := by unfold orcU; rw [h]
/-- an operand that is no data -/
theorem orcU_obj {tm : List U} {x : Operand} {u : U} (hx : x ∈ o.op.operands.toList) (hu : evalU tm x = some u) (hd : asDat u = none) : orcU an tm o = none := by
  unfold orcU
  split
  · rfl
  · have : o.op.operands.toList.mapM (fun x => (evalU tm x).bind asDat) = none := by
      generalize o.op.operands.toList = l at hx
      induction l with
      | nil => simp at hx
      | cons a l ih =>
        rw [List.mapM_cons]
        rcases List.mem_cons.1 hx with rfl | hx
        · rw [hu]; simp [hd]
        · rw [ih hx]
          cases (evalU tm a).bind asDat <;> rfl
    rw [this]
    rfl
/-- operands that are no names -/
theorem orcU_shy (hs : Shy an) {tm : List U} (h : ∀ x ∈ o.op.operands.toList, ∃ u, evalU tm x = some u ∧ ∀ d, u = .dat d → isSym d = false) : orcU an tm o = none := by
  unfold orcU
  split
  · rfl
  · rename_i q hq
    cases hm : o.op.operands.toList.mapM (fun x => (evalU tm x).bind asDat) with
    | none => rfl
    | some ds =>
      show q ds = none
      refine hs.no _ _ _ hq (List.all_eq_true.2 fun d hd => ?_)
      obtain ⟨i, hi⟩ := List.getElem?_of_mem hd
      obtain ⟨x, hx, he⟩ := mapM_back hm hi
      obtain ⟨u, hu, hn⟩ := h x (List.mem_of_getElem? hx)
      rw [hu] at he
      cases u <;> simp [asDat] at he
      subst he
      rw [hn _ rfl]
      rfl

theorem fop_ok (hy : Shy an) (hs : Shp t0 t) {m : M} (hk : okM P t0 o m = true) (h : fop g id t m = some r) : opStep P g id t.toL o = some r ∧ orcU an t.toL o = none := by
  letI : Sig := ⟨fun _ => .nil⟩
  cases m with
  | gen => simp [fop] at h
  | call f l => simp [fop] at h
  | mv x =>
    simp only [fop] at h
    simp only [okM] at hk
    split at hk
    · rename_i y ho
      have hx := okA_ev hs hk
      refine ⟨?_, orcU_none (by rw [ho]; exact hy.mv _)⟩
      unfold opStep; rw [ho]; simp only [hx]; exact h
    · rename_i y ho
      have hx := okA_ev hs hk
      refine ⟨?_, orcU_none (by rw [ho]; exact hy.as _)⟩
      unfold opStep; rw [ho]; simp only [hx]; exact h
    · simp at hk
  | nilc x =>
    simp only [fop] at h
    simp only [okM] at hk
    split at hk
    · rename_i y ho
      have hx := okA_ev hs hk
      have hops : o.op.operands.toList = [y] := by rw [ho]; rfl
      split at h
      · rename_i a b c hu
        rw [hu] at hx
        refine ⟨?_, orcU_obj (x := y) (by rw [hops]; simp) hx rfl⟩
        unfold opStep; rw [ho]; simp only [hx]; exact h
      · rename_i cs hu
        rw [hu] at hx
        refine ⟨?_, orcU_shy hy fun z hz => ?_⟩
        · unfold opStep; rw [ho]; simp only [hx]; exact h
        · rw [hops] at hz; simp at hz; subst hz; exact ⟨_, hx, fun d hd => by cases hd; rfl⟩
      · simp at h
    · simp at hk
  | fadr off x =>
    simp only [fop] at h
    simp only [okM] at hk
    split at hk
    · rename_i s y f ho
      simp only [Bool.and_eq_true] at hk
      have hx := okA_ev hs hk.1
      have hops : o.op.operands.toList = [y] := by rw [ho]; rfl
      have hk2 := hk.2
      split at hk2
      · rename_i fd hfd
        simp only [Bool.and_eq_true] at hk2
        have hoff := Nat.eq_of_beq_eq_true hk2.1
        have hk3 := hk2.2
        split at hk3
        · rename_i n hn
          rw [Nat.blt_eq] at hk3
          have hn0 : ¬ n = 0 := by omega
          split at h
          · rename_i a b p hu
            rw [hu] at hx
            refine ⟨?_, orcU_obj (x := y) (by rw [hops]; simp) hx rfl⟩
            unfold opStep; rw [ho]
            simp only [hx, Option.bind_some, opFieldAddr, hfd, hn]
            rw [if_neg hn0, hoff]
            exact forceN_some h
          · rename_i cs hu
            rw [hu] at hx
            refine ⟨?_, orcU_shy hy fun z hz => ?_⟩
            · unfold opStep; rw [ho]
              simp only [hx, Option.bind_some, opFieldAddr, hfd, hn]
              rw [if_neg hn0, hoff]
              rw [forceL_eq] at h
              exact h
            · rw [hops] at hz; simp at hz; subst hz; exact ⟨_, hx, fun d hd => by cases hd; rfl⟩
          · simp at h
        · simp at hk3
      · simp at hk2
    · simp at hk
  | load n ag x =>
    simp only [fop] at h
    simp only [okM] at hk
    split at hk
    · rename_i ty y ho
      simp only [Bool.and_eq_true] at hk
      have hx := okA_ev hs hk.1.1.1
      have hops : o.op.operands.toList = [y] := by rw [ho]; rfl
      refine ⟨?_, ?_⟩
      · unfold opStep; rw [ho]
        simp only [hx, Option.bind_some]
        exact fload_ok (isSize_eq hk.1.1.2) (isAgg_eq hk.1.2) hk.2 h
      · refine orcU_shy hy fun z hz => ?_
        rw [hops] at hz; simp at hz; subst hz
        refine ⟨_, hx, fun d hd => ?_⟩
        rw [hd] at h
        cases d <;> first | rfl | (simp [fload] at h; done)
    · simp at hk
  | store n a x =>
    simp only [fop] at h
    simp only [okM] at hk
    split at hk
    · rename_i ty y z ho
      simp only [Bool.and_eq_true] at hk
      have hx := okA_ev hs hk.1.1
      have hz := okA_ev hs hk.1.2
      refine ⟨?_, orcU_none (by rw [ho]; exact hy.st _ _ _)⟩
      unfold opStep; rw [ho]
      simp only [hx, hz, Option.bind_some]
      exact fstore_ok (isSize_eq hk.2) h
    · simp at hk
  | box ty n ag x =>
    simp only [fop] at h
    simp only [okM] at hk
    split at hk
    · rename_i ty' y ho
      simp only [Bool.and_eq_true, Nat.blt_eq] at hk
      have hx := okA_ev hs hk.1.1.1.1
      have hty := Nat.eq_of_beq_eq_true hk.1.1.1.2
      subst hty
      refine ⟨?_, orcU_none (by rw [ho]; exact hy.bx _ _)⟩
      unfold opStep; rw [ho]
      simp only [hx, Option.bind_some]
      exact fbox_ok (isSize_eq hk.1.1.2) (isAgg_eq hk.1.2) hk.2 h
    · simp at hk
  | alloc ty n ag z =>
    simp only [fop] at h
    simp only [okM] at hk
    split at hk
    · rename_i ty' ho
      simp only [Bool.and_eq_true, Nat.blt_eq] at hk
      obtain ⟨⟨⟨⟨⟨⟨h1, h2⟩, h3⟩, h4⟩, h5⟩, h6⟩, h7⟩ := hk
      have hty := Nat.eq_of_beq_eq_true h1
      subst hty
      have hl := Nat.eq_of_beq_eq_true h5
      split at h7
      · rename_i z' hz
        have hz2 := beqUs_eq _ _ h7
        refine ⟨?_, orcU_shy hy fun x hx => ?_⟩
        · unfold opStep; rw [ho]
          simp only [hz, Option.bind_some, hz2, opAlloc, isSize_eq h2, isAgg_eq h3]
          rw [if_pos ⟨hl, h4, h6⟩]
          exact h
        · have hops : o.op.operands.toList = [] := by rw [ho]; rfl
          rw [hops] at hx; simp at hx
      · simp at h7
    · simp at hk
  | cmp op x y =>
    simp only [fop] at h
    simp only [okM] at hk
    split at hk
    · rename_i q ty a b w ho
      simp only [Bool.and_eq_true] at hk
      have hq := beqBin_eq hk.1.1
      subst hq
      have hx := okA_ev hs hk.1.2
      have hz := okA_ev hs hk.2
      have hops : o.op.operands.toList = [a, b] := by rw [ho]; rfl
      split at h
      · rename_i k m hu
        split at h
        · rename_i j n hv
          replace h := cond_some h
          obtain ⟨hkj, h⟩ := h
          have hkj := beqK_eq hkj
          subst hkj
          rw [hu] at hx
          rw [hv] at hz
          rw [fcmp_eq] at h
          split at h
          · rename_i bb hb
            rw [forceB_eq] at h
            obtain rfl := Option.some.inj h
            refine ⟨st_cmp (op := q) (x := a) (y := b) (by unfold binAt; rw [ho]) hx hz hb, orcU_shy hy fun z hzz => ?_⟩
            rw [hops] at hzz; simp at hzz
            rcases hzz with rfl | rfl
            · exact ⟨_, hx, fun d hd => by cases hd; rfl⟩
            · exact ⟨_, hz, fun d hd => by cases hd; rfl⟩
          · simp at h
        · simp at h
      · simp at h
    · simp at hk
  | ari op x y =>
    simp only [fop] at h
    simp only [okM] at hk
    split at hk
    · rename_i q ty a b w ho
      simp only [Bool.and_eq_true] at hk
      have hq := beqBin_eq hk.1.1
      subst hq
      have hx := okA_ev hs hk.1.2
      have hz := okA_ev hs hk.2
      have hops : o.op.operands.toList = [a, b] := by rw [ho]; rfl
      split at h
      · rename_i k m hu
        split at h
        · rename_i j n hv
          replace h := cond_some h
          obtain ⟨hkj, h⟩ := h
          have hkj := beqK_eq hkj
          subst hkj
          rw [hu] at hx
          rw [hv] at hz
          rw [fari_eq] at h
          split at h
          · rename_i bb hb
            rw [forceI_eq] at h
            obtain rfl := Option.some.inj h
            refine ⟨st_ari (op := q) (x := a) (y := b) (by unfold binAt; rw [ho]) hx hz hb, orcU_shy hy fun z hzz => ?_⟩
            rw [hops] at hzz; simp at hzz
            rcases hzz with rfl | rfl
            · exact ⟨_, hx, fun d hd => by cases hd; rfl⟩
            · exact ⟨_, hz, fun d hd => by cases hd; rfl⟩
          · simp at h
        · simp at h
      · simp at h
    · simp at hk
  | seq neg x y =>
    simp only [fop] at h
    simp only [okM] at hk
    split at hk
    · rename_i q ty a b w ho
      simp only [Bool.and_eq_true] at hk
      obtain ⟨⟨⟨h1, h2⟩, h3⟩, h4⟩ := hk
      have hq := beqBin_eq h1
      have hx := okA_ev hs h3
      have hz := okA_ev hs h4
      have hst := isStr_eq h2
      have hops : o.op.operands.toList = [a, b] := by rw [ho]; rfl
      split at h
      · rename_i s hu
        split at h
        · rename_i s' hv
          rw [hu] at hx
          rw [hv] at hz
          rw [forceB_eq] at h
          obtain rfl := Option.some.inj h
          have hbt : beqT s.data.toList s'.data.toList = (s == s') := by
            rw [beqS_eq, Bool.eq_iff_iff, beqT_iff, beq_iff_eq]
            exact ⟨fun h => Array.toList_inj.1 h, fun h => by rw [h]⟩
          have hp : opPure P t.toL o = some ⟨.dat (.bool (xor (beqT s.data.toList s'.data.toList) neg)), [], []⟩ := by
            refine opPure_two (w := .bool (xor (s == s') neg)) hops (by rw [hx]; rfl) (by rw [hz]; rfl) (fun cs b e => by rw [ho] at e; cases e) (fun ρ h1 h2 => ?_) (by rw [hbt]; rfl)
            have hbl : (s.data.toList == s'.data.toList) = (s == s') := by
              rw [beqS_eq, Bool.eq_iff_iff, beq_iff_eq, beq_iff_eq]
              exact ⟨fun h => Array.toList_inj.1 h, fun h => by rw [h]⟩
            have heq : pureSem P (Op.equal ty (.string s) (.string s')) = some (s == s') := by
              unfold Op.equal
              rw [show Op.maxDepth = 9999 + 1 from rfl]
              unfold Op.equalIn
              rw [pureSem_bind, pureSem_underlying P ty hst]
              rfl
            simp only [execOp, ho, h1, h2]
            subst hq
            cases neg
            · simp [pureSem_bind, pureSem_map, eqGuard, binOp, Op.stringOp, heq, toList_data, hbl]
            · simp [pureSem_bind, pureSem_map, eqGuard, binOp, Op.stringOp, heq, toList_data, hbl]
          refine ⟨opStep_bin ho hp, orcU_shy hy fun z hzz => ?_⟩
          rw [hops] at hzz; simp at hzz
          rcases hzz with rfl | rfl
          · exact ⟨_, hx, fun d hd => by cases hd; rfl⟩
          · exact ⟨_, hz, fun d hd => by cases hd; rfl⟩
        · simp at h
      · simp at h
    · simp at hk
  | notB x =>
    simp only [fop] at h
    simp only [okM] at hk
    split at hk
    · rename_i ty a ho
      have hx := okA_ev hs hk
      have hops : o.op.operands.toList = [a] := by rw [ho]; rfl
      split at h
      · rename_i b hu
        rw [hu] at hx
        rw [forceB_eq] at h
        obtain rfl := Option.some.inj h
        have hp : opPure P t.toL o = some ⟨.dat (.bool (!b)), [], []⟩ := by
          refine opPure_one (w := .bool (!b)) hops (by rw [hx]; rfl) (fun cs b e => by rw [ho] at e; cases e) (fun ρ h1 => ?_) rfl
          simp only [execOp, ho, h1]
          simp [pureSem_bind, Op.unary]
        refine ⟨?_, orcU_shy hy fun z hzz => ?_⟩
        · unfold opStep; rw [ho]; exact hp
        · rw [hops] at hzz; simp at hzz; subst hzz
          exact ⟨_, hx, fun d hd => by cases hd; rfl⟩
      · simp at h
    · simp at hk
  | ext x i =>
    simp only [fop] at h
    simp only [okM] at hk
    split at hk
    · rename_i y j ho
      simp only [Bool.and_eq_true] at hk
      have hij := Nat.eq_of_beq_eq_true hk.1
      subst hij
      have hx := okA_ev hs hk.2
      have hops : o.op.operands.toList = [y] := by rw [ho]; rfl
      split at h
      · rename_i l hu
        rw [hu] at hx
        refine ⟨?_, orcU_obj (x := y) (by rw [hops]; simp) hx rfl⟩
        unfold opStep; rw [ho]
        simp only [hx]
        rw [nth_eq] at h
        split at h
        · rename_i u hl; rw [hl]; exact h
        · simp at h
      · simp at h
    · simp at hk
  | pick c x y =>
    simp only [fop] at h
    simp only [okM] at hk
    split at hk
    · rename_i z a b ho
      simp only [Bool.and_eq_true] at hk
      have hc := okA_ev hs hk.1.1
      have hx := okA_ev hs hk.1.2
      have hz := okA_ev hs hk.2
      refine ⟨?_, orcU_none (by rw [ho]; exact hy.pk _ _ _)⟩
      split at h
      · rename_i bb hu
        rw [hu] at hc
        unfold opStep; rw [ho]
        cases bb
        · simp only [hc, hz]; exact h
        · simp only [hc, hx]; exact h
      · simp at h
    · simp at hk
  | len x =>
    simp only [fop] at h
    simp only [okM] at hk
    split at hk
    · rename_i c ho
      split at hk
      · rename_i a ty hcal hargs htys
        simp only [Bool.and_eq_true] at hk
        obtain ⟨e, hus⟩ := isSlc_eq hk.1
        have hx := okA_ev hs hk.2
        have hops : o.op.operands.toList = [a] := by rw [ho]; simp [Op.operands, Call.operands, hcal, hargs]
        have go : ∀ u, evalU t.toL a = some u → valU u = none → opLenG P g ty u = some r → opStep P g id t.toL o = some r := by
          intro u hu hv hl
          have hp := opPure_none (P := P) (o := o) (x := a) (by rw [hops]; simp) hu hv
          unfold opStep; rw [ho]
          simp only [hcal, hargs, htys, hp, hu, Option.bind_some]
          exact hl
        split at h
        · rename_i l hu
          rw [hu] at hx
          refine ⟨go _ hx rfl ?_, orcU_shy hy fun z hzz => ?_⟩
          · simp only [opLenG, opLen, hus]; rw [forceN_eq] at h; exact h
          · rw [hops] at hzz; simp at hzz; subst hzz
            exact ⟨_, hx, fun d hd => by cases hd; rfl⟩
        · rename_i a' b' c' n hu
          rw [hu] at hx
          refine ⟨go _ hx rfl ?_, orcU_obj (x := a) (by rw [hops]; simp) hx rfl⟩
          simp only [opLenG, opLen, hus]; exact h
        · simp at h
      · simp at hk
    · simp at hk
  | slen x =>
    simp only [fop] at h
    simp only [okM] at hk
    split at hk
    · rename_i c ho
      split at hk
      · rename_i a ty hcal hargs htys
        simp only [Bool.and_eq_true] at hk
        have hst := isStr_eq hk.1
        have hx := okA_ev hs hk.2
        have hops : o.op.operands.toList = [a] := by rw [ho]; simp [Op.operands, Call.operands, hcal, hargs]
        have hca : c.args = #[a] := by apply Array.ext'; simpa using hargs
        have hct : c.argTypes = #[ty] := by apply Array.ext'; simpa using htys
        split at h
        · rename_i s hu
          rw [hu] at hx
          rw [forceN_eq] at h
          have hp : opPure P t.toL o = some ⟨.dat (.int .i64 s.data.toList.length), [], []⟩ := by
            refine opPure_one (w := .int .i64 s.size) hops (by rw [hx]; rfl) (fun cs b e => by rw [ho] at e; cases e) (fun ρ h1 => ?_) (by simp [constD, const1])
            simp only [execOp, ho, resolve, hcal, hca, hct]
            simp [h1, pureSem_bind, invoke, builtin, Builtin.len_, pureSem_underlying P ty hst, goInt]
          refine ⟨?_, orcU_shy hy fun z hzz => ?_⟩
          · unfold opStep; rw [ho]
            simp only [hcal, hargs, htys, hp]
            exact h
          · rw [hops] at hzz; simp at hzz; subst hzz
            exact ⟨_, hx, fun d hd => by cases hd; rfl⟩
        · simp at h
      · simp at hk
    · simp at hk
  | idx sz x i =>
    simp only [fop] at h
    simp only [okM] at hk
    split at hk
    · rename_i ty a b ho
      simp only [Bool.and_eq_true] at hk
      have hx := okA_ev hs hk.1.1
      have hz := okA_ev hs hk.1.2
      have hops : o.op.operands.toList = [a, b] := by rw [ho]; rfl
      have hk2 := hk.2
      split at hk2
      · rename_i e hus
        refine ⟨?_, ?_⟩
        · unfold opStep; rw [ho]
          simp only [hx, hz, Option.bind_some]
          exact fidx_ok hus (isSize_eq hk2) h
        · refine orcU_shy hy fun z hzz => ?_
          rw [hops] at hzz; simp at hzz
          rcases hzz with rfl | rfl
          · refine ⟨_, hx, fun d hd => ?_⟩
            rw [hd] at h
            cases d <;> first | rfl | skip
            unfold fidx at h
            split at h
            · rename_i hh; split at h <;> first | (simp at h; done) | (rename_i e2 _; cases e2; done) | (rename_i e2; cases e2; done)
            · simp at h
          · refine ⟨_, hz, fun d hd => ?_⟩
            rw [hd] at h
            cases d <;> first | rfl | (simp [fidx] at h; done)
      · simp at hk2
    · simp at hk
  | sidx x i =>
    simp only [fop] at h
    simp only [okM] at hk
    split at hk
    · rename_i ty a b ho
      simp only [Bool.and_eq_true] at hk
      have hx := okA_ev hs hk.1.1
      have hz := okA_ev hs hk.1.2
      have hst := isStr_eq hk.2
      have hops : o.op.operands.toList = [a, b] := by rw [ho]; rfl
      split at h
      · rename_i k n hu
        split at h
        · rename_i s hv
          rw [hu] at hz
          rw [hv] at hx
          rw [nth_eq] at h
          split at h
          · rename_i c hc
            rw [forceN_eq] at h
            have hp : opPure P t.toL o = some ⟨.dat (.int .u8 c.toNat), [], []⟩ := by
              refine opPure_two (w := .int .u8 c.toNat) hops (by rw [hx]; rfl) (by rw [hz]; rfl) (fun cs b e => by rw [ho] at e; cases e) (fun ρ h1 h2 => ?_) rfl
              simp only [execOp, ho, h1, h2]
              have hget : s[n]? = some c := by
                have hlt : n < s.data.toList.length := (List.getElem?_eq_some_iff.1 hc).1
                have hlt' : n < s.size := by simpa using hlt
                rw [getElem?_pos s n hlt']
                have h3 := (List.getElem?_eq_some_iff.1 hc).2
                rw [← h3]
                rfl
              simp [pureSem_bind, Instr.index, asIntOf, pureSem_underlying P ty hst, hget]
            refine ⟨?_, orcU_shy hy fun z hzz => ?_⟩
            · unfold opStep; rw [ho]
              simp only [hp]
              exact h
            · rw [hops] at hzz; simp at hzz
              rcases hzz with rfl | rfl
              · exact ⟨_, hx, fun d hd => by cases hd; rfl⟩
              · exact ⟨_, hz, fun d hd => by cases hd; rfl⟩
          · simp at h
        · simp at h
      · simp at h
    · simp at hk
  | fld off n ag x =>
    simp only [fop] at h
    simp only [okM] at hk
    split at hk
    · rename_i ty y f ho
      simp only [Bool.and_eq_true, Bool.not_eq_true'] at hk
      obtain ⟨⟨h1, h2⟩, h3⟩ := hk
      have hx := okA_ev hs h1
      subst h2
      have hops : o.op.operands.toList = [y] := by rw [ho]; rfl
      split at h3
      · rename_i fd hfd
        simp only [Bool.and_eq_true] at h3
        have hoff := Nat.eq_of_beq_eq_true h3.1.1
        split at h
        · rename_i ds hu
          rw [hu] at hx
          simp only [cond_false] at h
          rw [nth_eq] at h
          refine ⟨?_, orcU_shy hy fun z hzz => ?_⟩
          · unfold opStep; rw [ho]
            simp only [hx, Option.bind_some, opField, hfd, isSize_eq h3.1.2, isAgg_eq h3.2]
            split at h
            · rename_i d hd
              rw [hoff, hd]
              simpa using h
            · simp at h
          · rw [hops] at hzz; simp at hzz; subst hzz
            exact ⟨_, hx, fun d hd => by cases hd; rfl⟩
        · simp at h
      · simp at h3
    · simp at hk
end

end Go.Proofs.YtillejiepbgkbaaGreat.V
