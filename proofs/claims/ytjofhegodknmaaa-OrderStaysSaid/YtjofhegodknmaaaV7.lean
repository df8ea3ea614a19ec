/- V, 7: literals, make, copy, and all operations together. -/
import Derived.Test.YtjofhegodknmaaaV6
set_option linter.unusedSimpArgs false
set_option linter.unusedVariables false
namespace Go.Proofs.Ytjofhegodknmaaa.V
open Go
variable [Sig]
section
variable {P : Program} {a : Act} {o : Oper} {w : World} {F : Mem} {L : Lay} {b0 : Nat} {g : Nat → Option Obj} {tm : List U}
theorem lst_inv {l : List D} {v : Value} (h : Rep F (.lst l) v) : ∃ ad c, v = .slice (some ad) l.length c ∧ l.length ≤ c := by
  cases h with
  | lst _ ad c sz val hc hsz ho hF hR => exact ⟨ad, c, rfl, hc⟩
theorem own_inv {x gn off n : Nat} {v : Value} (h : RepU F L (.own x gn off n) v) : ∃ ad c, v = .slice (some ad) n c := by
  cases h with
  | own _ _ _ c i hL hn hc => exact ⟨_, c, rfl⟩
  | ownEnd _ _ i ad hL => exact ⟨ad, 0, rfl⟩
  | ownOld _ _ _ _ i ad c hL hlt => exact ⟨ad, c, rfl⟩
theorem nil_inv {v : Value} (h : Rep F .nil v) : v = .slice none 0 0 := by cases h; rfl
theorem fp_inv {cs : List D} {v : Value} (h : Rep F (.fp cs) v) : ∃ ad, v = .pointer (some ad) := by
  cases h with
  | fp _ ad _ _ _ _ _ => exact ⟨ad, rfl⟩
theorem ptr_inv {x gn p : Nat} {v : Value} (h : RepU F L (.ptr x gn p) v) : ∃ ad, v = .pointer (some ad) := by
  obtain ⟨ad, h1, _⟩ := ptr_add h 0
  exact ⟨ad, h1⟩
theorem nul0_inv {v : Value} (h : Rep F (.nul 0) v) : v = .pointer none := by cases h; rfl
theorem len_ok {t : TypeId} {c : Call} {x : Operand} {r : Res} (hop : o.op = .call c) (hcal : c.callee = .builtin .len) (hargs : c.args.toList = [x]) (htys : c.argTypes.toList = [t])
    (h : (evalU tm x).bind (opLen P t) = some r) (hS : SR w F L b0 g) (hT : TR F L tm a.tmps) : OpOk P a o w F L b0 g r := by
  replace h := Option.bind_eq_some_iff.1 h
  obtain ⟨u, hu, h⟩ := h
  have hr := eval_rep hT hu
  have hca : c.args = #[x] := by rw [← Array.toArray_toList (xs := c.args), hargs]
  have hct : c.argTypes = #[t] := by rw [← Array.toArray_toList (xs := c.argTypes), htys]
  unfold opLen at h
  split at h
  · rename_i l
    split at h
    · rename_i e hus
      obtain rfl := Option.some.inj h
      obtain ⟨ad, cp, hv, _⟩ := lst_inv (dat_inv hr)
      refine .quiet hS rfl ?_ (.dat _ _ (.int ..))
      simp [execOp, hop, resolve, hcal, hca, hct, invoke, builtin, Builtin.len_, run_underlying hus, hv, goInt]
    · simp at h
  · split at h
    · rename_i e hus
      obtain rfl := Option.some.inj h
      obtain ⟨ad, cp, hv⟩ := own_inv hr
      refine .quiet hS rfl ?_ (.dat _ _ (.int ..))
      simp [execOp, hop, resolve, hcal, hca, hct, invoke, builtin, Builtin.len_, run_underlying hus, hv, goInt]
    · simp at h
  · simp at h
theorem equal_slice {t e : TypeId} (hd : P.underlying t = some (.slice e)) (ad : Addr) (n c : Nat) (w : World) : (Op.equal t (.slice (some ad) n c) (.slice none 0 0)).run P w = .ok false w := by
  have _s : Sig := inferInstance
  unfold Op.equal
  rw [show Op.maxDepth = 9999 + 1 from rfl]
  unfold Op.equalIn
  rw [Sem.run_bind, run_underlying hd]
  rfl
theorem equal_pointer {t e : TypeId} (hd : P.underlying t = some (.pointer e)) (ad : Addr) (w : World) : (Op.equal t (.pointer (some ad)) (.pointer none)).run P w = .ok false w := by
  have _s : Sig := inferInstance
  unfold Op.equal
  rw [show Op.maxDepth = 9999 + 1 from rfl]
  unfold Op.equalIn
  rw [Sem.run_bind, run_underlying hd]
  rfl
theorem equal_map {t k e : TypeId} (hd : P.underlying t = some (.map k e)) (r : Nat) (w : World) : (Op.equal t (.map (some r)) (.map none)).run P w = .ok false w := by
  have _s : Sig := inferInstance
  unfold Op.equal
  rw [show Op.maxDepth = 9999 + 1 from rfl]
  unfold Op.equalIn
  rw [Sem.run_bind, run_underlying hd]
  rfl
theorem nul1_inv {v : Value} (h : Rep F (.nul 1) v) : v = .map none := by cases h; rfl
theorem map_inv {x gn : Nat} {v : Value} (h : RepU F L (.map x gn) v) : ∃ r, v = .map (some r) := by
  cases h with
  | map _ i hL => exact ⟨_, rfl⟩
  | mapOld _ _ i r hL hlt => exact ⟨r, rfl⟩
theorem eql_run {neg : Bool} {t t2 : TypeId} {x y : Operand} (hop : o.op = .binOp (if neg then .neq else .eql) t x y t2) {va vb : Value} (hva : a.eval x = va) (hvb : a.eval y = vb)
    (h : (∃ ad n c, va = .slice (some ad) n c ∧ vb = .slice none 0 0) ∨ (∃ ad, va = .pointer (some ad) ∧ vb = .pointer none) ∨ (∃ r, va = .map (some r) ∧ vb = .map none)) (he : (Op.equal t va vb).run P w = .ok false w) :
    (execOp a.eval o).run P w = .ok (.value (.bool (false != neg))) w := by
  have _s : Sig := inferInstance
  have hg : ∀ op : BinOp, (eqGuard op t x y va vb).run P w = .ok () w := by
    intro op
    rcases h with ⟨ad, n, c, rfl, rfl⟩ | ⟨ad, rfl, rfl⟩ | ⟨r, rfl, rfl⟩ <;> cases op <;> rfl
  have hb : (binOp (if neg then .neq else .eql) t va vb).run P w = .ok (.bool (false != neg)) w := by
    rcases h with ⟨ad, n, c, rfl, rfl⟩ | ⟨ad, rfl, rfl⟩ | ⟨r, rfl, rfl⟩ <;> cases neg <;> simp [binOp, he]
  simp only [execOp, hop, hva, hvb, Sem.run_bind, hg, Result.andThen_ok, hb, Sem.run_pure]
theorem eql_ok {neg : Bool} {t t2 : TypeId} {x y : Operand} {r : Res} (hop : o.op = .binOp (if neg then .neq else .eql) t x y t2) (h : (evalU tm x).bind (fun u => (evalU tm y).bind (opEql P t neg u)) = some r) (hS : SR w F L b0 g) (hT : TR F L tm a.tmps) : OpOk P a o w F L b0 g r := by
  replace h := Option.bind_eq_some_iff.1 h
  obtain ⟨u, hu, h⟩ := h
  replace h := Option.bind_eq_some_iff.1 h
  obtain ⟨z, hz, h⟩ := h
  have hr := eval_rep hT hu
  have hrz := eval_rep hT hz
  unfold opEql at h
  split at h
  · rename_i e _ hd
    obtain rfl := Option.some.inj h
    obtain ⟨ad, c, hv, _⟩ := lst_inv (dat_inv hr)
    exact .quiet hS rfl (eql_run hop hv (nil_inv (dat_inv hrz)) (.inl ⟨ad, _, c, rfl, rfl⟩) (equal_slice hd ad _ c w)) (.dat _ _ (.bool _))
  · rename_i e _ _ _ _ hd
    obtain rfl := Option.some.inj h
    obtain ⟨ad, c, hv⟩ := own_inv hr
    exact .quiet hS rfl (eql_run hop hv (nil_inv (dat_inv hrz)) (.inl ⟨ad, _, c, rfl, rfl⟩) (equal_slice hd ad _ c w)) (.dat _ _ (.bool _))
  · rename_i e _ _ _ hd
    obtain rfl := Option.some.inj h
    obtain ⟨ad, hv⟩ := ptr_inv hr
    exact .quiet hS rfl (eql_run hop hv (nul0_inv (dat_inv hrz)) (.inr (.inl ⟨ad, rfl, rfl⟩)) (equal_pointer hd ad w)) (.dat _ _ (.bool _))
  · rename_i e _ hd
    obtain rfl := Option.some.inj h
    obtain ⟨ad, hv⟩ := fp_inv (dat_inv hr)
    exact .quiet hS rfl (eql_run hop hv (nul0_inv (dat_inv hrz)) (.inr (.inl ⟨ad, rfl, rfl⟩)) (equal_pointer hd ad w)) (.dat _ _ (.bool _))
  · rename_i k e _ _ hd
    obtain rfl := Option.some.inj h
    obtain ⟨r, hv⟩ := map_inv hr
    exact .quiet hS rfl (eql_run hop hv (nul1_inv (dat_inv hrz)) (.inr (.inr ⟨r, rfl, rfl⟩)) (equal_map hd r w)) (.dat _ _ (.bool _))
  · simp at h
theorem foldl_set (off : Nat) : ∀ (vs : List Value) (k : Nat) (cells : Array Value), off + k + vs.length ≤ cells.size →
    ((vs.zipIdx k).foldl (fun cs (p : Value × Nat) => cs.setIfInBounds (off + p.2) p.1) cells).size = cells.size ∧
    ∀ j, ((vs.zipIdx k).foldl (fun cs (p : Value × Nat) => cs.setIfInBounds (off + p.2) p.1) cells)[j]? = if off + k ≤ j ∧ j < off + k + vs.length then vs[j - (off + k)]? else cells[j]? := by
  have _s : Sig := inferInstance
  intro vs
  induction vs with
  | nil =>
    intro k cells _
    refine ⟨rfl, fun j => ?_⟩
    show cells[j]? = _
    rw [if_neg (by simp)]
    try omega
  | cons v vs ih =>
    intro k cells hl
    simp only [List.length_cons] at hl
    obtain ⟨h1, h2⟩ := ih (k + 1) (cells.setIfInBounds (off + k) v) (by simp; omega)
    simp only [List.zipIdx_cons, List.foldl_cons]
    refine ⟨by rw [h1]; simp, fun j => ?_⟩
    rw [h2 j]
    by_cases hj : j = off + k
    · subst hj
      have : ¬ (off + (k + 1) ≤ off + k ∧ off + k < off + (k + 1) + vs.length) := by omega
      rw [if_neg this, if_pos (by simp)]
      have hlt : off + k < cells.size := by omega
      simp [Array.getElem?_setIfInBounds, hlt]
    · by_cases hin : off + (k + 1) ≤ j ∧ j < off + (k + 1) + vs.length
      · rw [if_pos hin, if_pos (by simp; omega)]
        have : j - (off + k) = (j - (off + (k + 1))) + 1 := by omega
        rw [this]
        simp
      · rw [if_neg hin, if_neg (by simp; omega), Array.getElem?_setIfInBounds_ne (by omega)]
theorem fill_ok (place : Nat → Option (Nat × Nat)) : ∀ (ps : List (Nat × U)) (vs : List (Nat × Value)) (cells cells' : List U) (arr : Array Value),
    ps.length = vs.length → (∀ (j : Nat) p q, ps[j]? = some p → vs[j]? = some q → p.1 = q.1 ∧ RepU F L p.2 q.2) → fillU place cells ps = some cells' →
    arr.size = cells.length → (∀ (j : Nat) u, cells[j]? = some u → u.one = true ∧ ∃ v, arr[j]? = some v ∧ RepU F L u v) →
    ∃ arr', Instr.fill place arr vs = some arr' ∧ arr'.size = cells'.length ∧ cells'.length = cells.length ∧ ∀ (j : Nat) u, cells'[j]? = some u → u.one = true ∧ ∃ v, arr'[j]? = some v ∧ RepU F L u v := by
  intro ps
  induction ps with
  | nil =>
    intro vs cells cells' arr hl _ hf hs hc
    have : vs = [] := List.eq_nil_of_length_eq_zero hl.symm
    subst this
    simp [fillU] at hf
    subst hf
    exact ⟨arr, rfl, hs, rfl, hc⟩
  | cons p ps ih =>
    intro vs cells cells' arr hl hpq hf hs hc
    cases vs with
    | nil => simp at hl
    | cons q vs =>
      obtain ⟨i, u⟩ := p
      obtain ⟨i', v⟩ := q
      obtain ⟨h1, hr⟩ := hpq 0 _ _ rfl rfl
      simp only at h1 hr
      subst h1
      simp only [fillU] at hf
      split at hf
      · simp at hf
      · rename_i off size hp
        split at hf
        · rename_i hcond
          obtain ⟨hul, hfit, hall⟩ := hcond
          obtain ⟨hcs, hcr⟩ := hr.cells' (cells_all hall).1 (cells_all hall).2
          have hvl : v.cells.toList.length = size := by simp; omega
          obtain ⟨g1, g2⟩ := foldl_set off v.cells.toList 0 arr (by omega)
          have hstep : Instr.fill place arr ((i, v) :: vs) = Instr.fill place ((v.cells.toList.zipIdx 0).foldl (fun cs (p : Value × Nat) => cs.setIfInBounds (off + p.2) p.1) arr) vs := by
            have e1 : ¬ (v.cells.size ≠ size) := by omega
            have e2 : ¬ (off + v.cells.size > arr.size) := by omega
            have e3 : v.cells.zipIdx.foldl (fun cs (x : Value × Nat) => cs.setIfInBounds (off + x.2) x.1) arr = (v.cells.toList.zipIdx 0).foldl (fun cs (p : Value × Nat) => cs.setIfInBounds (off + p.2) p.1) arr := by
              rw [← Array.foldl_toList]
              simp
            simp only [Instr.fill, hp]
            rw [if_neg (by simp; omega)]
            exact congrArg (fun z => Instr.fill place z vs) e3
          rw [hstep]
          obtain ⟨arr', r1, r2, r3, r4⟩ := ih vs (splice cells off u.cells) cells' _ (by simpa using hl) (fun j p q hp hq => hpq (j + 1) p q (by simpa using hp) (by simpa using hq)) hf (by rw [g1, hs, splice_length (by omega)]) (fun j x hx => by
            rw [g2 j]
            rcases splice_get (by omega) hx with ⟨hj, hx'⟩ | ⟨h3, h4, hx'⟩ | ⟨hj, hx'⟩
            · obtain ⟨ho, y, hy, hry⟩ := hc j x hx'
              exact ⟨ho, y, by rw [if_neg (by omega)]; exact hy, hry⟩
            · obtain ⟨ho, y, hy, hry⟩ := hcr _ x hx'
              refine ⟨ho, y, ?_, hry⟩
              rw [if_pos (by omega)]
              simpa using hy
            · obtain ⟨ho, y, hy, hry⟩ := hc j x hx'
              exact ⟨ho, y, by rw [if_neg (by omega)]; exact hy, hry⟩)
          exact ⟨arr', r1, r2, by rw [r3, splice_length (by omega)], r4⟩
        · simp at hf
theorem parts_ok {parts : Array (Nat × Operand)} {ps : List (Nat × U)} (h : partsU tm parts = some ps) (hT : TR F L tm a.tmps) :
    ps.length = (parts.map fun x => (x.1, a.eval x.2)).toList.length ∧ ∀ (j : Nat) p q, ps[j]? = some p → (parts.map fun x => (x.1, a.eval x.2)).toList[j]? = some q → p.1 = q.1 ∧ RepU F L p.2 q.2 := by
  unfold partsU at h
  have hl := (mapM_some h).1
  refine ⟨by simp at hl ⊢; omega, fun j p q hp hq => ?_⟩
  obtain ⟨x, hx, hxp⟩ := mapM_back h hp
  obtain ⟨i, y⟩ := x
  obtain ⟨u, hu, rfl⟩ := Option.map_eq_some_iff.1 hxp
  simp only [Array.toList_map, List.getElem?_map, hx, Option.map_some, Option.some.injEq] at hq
  subst hq
  exact ⟨rfl, eval_rep hT hu⟩
theorem build_ok {t : TypeId} {parts : Array (Nat × Operand)} {r : Res} (hop : o.op = .build t parts) (h : opBuild P tm t parts = some r) (hS : SR w F L b0 g) (hT : TR F L tm a.tmps) : OpOk P a o w F L b0 g r := by
  unfold opBuild at h
  split at h
  · rename_i z ps hz hps
    obtain ⟨i, zv, hi, hzv, hzm⟩ := zeroT_info hz
    obtain ⟨p1, p2⟩ := parts_ok hps hT
    have hzl : zv.cells.size = (z.map U.dat).length := by rw [List.length_map, (mapM_some hzm).1]; simp
    have key : ∀ (place : Nat → Option (Nat × Nat)) (cs : List U), fillU place (z.map U.dat) ps = some cs → (∀ arr', Instr.fill place zv.cells (parts.map fun x => (x.1, a.eval x.2)).toList = some arr' → P.built t (parts.map fun x => (x.1, a.eval x.2)).toList = some arr') → (⟨mkAgg cs, [], []⟩ : Res) = r → OpOk P a o w F L b0 g r := by
      intro place cs hf hb hrr
      subst hrr
      obtain ⟨arr', h1, h2, h3, h4⟩ := fill_ok (F := F) (L := L) place ps _ (z.map U.dat) cs zv.cells p1 p2 hf hzl (fun j u hu => by
        obtain ⟨ho, v, hv, hr⟩ := zero_cells hzm F L j u hu
        exact ⟨ho, v, by simpa using hv, hr⟩)
      have hrun := run_build (P := P) w t (parts.map fun x => (x.1, a.eval x.2)) arr' (hb arr' h1)
      refine .quiet hS rfl (v := .agg arr'.toList.toArray) ?_ (mkAgg_rep (by simp [h2]) (fun j u hu => (h4 j u hu).1) (fun j u v hu hv => ?_))
      · simp only [Array.toArray_toList]
        simp only [execOp, hop, Sem.run_bind]
        rw [hrun]
        rfl
      · obtain ⟨_, y, hy, hr⟩ := h4 j u hu
        have : arr'[j]? = some v := by simpa using hv
        rw [hy] at this
        obtain rfl := Option.some.inj this
        exact hr
    split at h
    · rename_i fs hus
      split at h
      · rename_i places hpl
        obtain ⟨cs, hcs, hrr⟩ := Option.map_eq_some_iff.1 h
        refine key _ cs hcs (fun arr' ha => ?_) hrr
        unfold Program.built
        simp only [hi, hus, hzv, hpl]
        exact ha
      · simp at h
    · rename_i len e hus
      split at h
      · rename_i n hn
        obtain ⟨cs, hcs, hrr⟩ := Option.map_eq_some_iff.1 h
        obtain ⟨ie, hie, rfl⟩ := sizeT_info hn
        refine key _ cs hcs (fun arr' ha => ?_) hrr
        unfold Program.built
        simp only [hi, hus, hzv, hie]
        exact ha
      · simp at h
    · simp at h
  · simp at h
theorem repeatD_length (z : List D) : ∀ n, (repeatD z n).length = n * z.length := by
  have _s : Sig := inferInstance
  intro n
  induction n with
  | zero => simp [repeatD]
  | succ n ih => simp [repeatD, ih, Nat.add_mul]; omega
theorem repeatD_get (z : List D) (h0 : 0 < z.length) : ∀ (n j : Nat) u, (repeatD z n)[j]? = some u → (z.map U.dat)[j % z.length]? = some u := by
  have _s : Sig := inferInstance
  intro n
  induction n with
  | zero => intro j u h; simp [repeatD] at h
  | succ n ih =>
    intro j u h
    simp only [repeatD] at h
    by_cases hj : j < z.length
    · rw [List.getElem?_append_left (by simpa using hj)] at h
      rw [Nat.mod_eq_of_lt hj]
      exact h
    · rw [List.getElem?_append_right (by simp; omega)] at h
      have := ih _ u h
      simp only [List.length_map] at this
      have e2 : j % z.length = (j - z.length) % z.length := by
        have : j = (j - z.length) + z.length := by omega
        conv => lhs; rw [this]
        rw [Nat.add_mod_right]
      rw [e2]
      exact this
theorem zeros_ok {zv : Value} {z : List D} (hzm : zv.cells.toList.mapM const1 = some z) (h0 : 0 < z.length) (n N : Nat) (hn : n * z.length ≤ N) (F : Mem) (L : Lay) :
    ∀ (j : Nat) u, (repeatD z n)[j]? = some u → u.one = true ∧ ∃ v, ((Array.range N).map (zv.cells[· % zv.cells.size]!))[j]? = some v ∧ RepU F L u v := by
  intro j u hu
  have hzl : zv.cells.size = z.length := by rw [(mapM_some hzm).1]; simp
  have hj : j < n * z.length := by rw [← repeatD_length]; exact (List.getElem?_eq_some_iff.1 hu).1
  obtain ⟨ho, v, hv, hr⟩ := zero_cells hzm F L _ u (repeatD_get z h0 n j u hu)
  refine ⟨ho, v, ?_, hr⟩
  have hlt : j % z.length < zv.cells.size := by rw [hzl]; exact Nat.mod_lt _ h0
  have hv' : zv.cells[j % z.length]? = some v := by simpa using hv
  have hjN : j < N := by omega
  simp only [Array.getElem?_map, Array.getElem?_range, hjN, if_true, Option.map_some, hzl]
  simp [getElem!_def, hv']
theorem buildSlice_ok {id : Nat} {t : TypeId} {len : Nat} {parts : Array (Nat × Operand)} {r : Res} (hop : o.op = .buildSlice t len parts) (h : opBuildSlice P id tm t len parts = some r) (hS : SR w F L b0 g) (hT : TR F L tm a.tmps) (hid : g id = none) (hb : b0 ≤ w.heap.size) :
    OpOk P a o w F L b0 g r := by
  unfold opBuildSlice at h
  split at h
  · rename_i e ps hus hps
    split at h
    · rename_i n ag z hn ha hz
      split at h
      · rename_i hcond
        obtain ⟨hn0, hzl, hlim⟩ := hcond
        obtain ⟨cs, hcs, hrr⟩ := Option.map_eq_some_iff.1 h
        subst hrr
        obtain ⟨i, zv, hi, hzv, hzm⟩ := zeroT_info hz
        obtain ⟨p1, p2⟩ := parts_ok hps hT
        have hz0 : 0 < z.length := by omega
        have hrl := repeatD_length z len
        obtain ⟨arr', h1, h2, h3, h4⟩ := fill_ok (F := F) (L := L) (fun i => some (i * n, n)) ps _ (repeatD z len) cs ((Array.range (len * n)).map (zv.cells[· % zv.cells.size]!)) p1 p2 hcs (by simp [hrl, hzl])
          (zeros_ok hzm hz0 len (len * n) (by rw [hzl]; exact Nat.le_refl _) F L)
        have hs := run_sizeOf hn w
        have hrun : (Instr.buildSlice t len (parts.map fun x => (x.1, a.eval x.2))).run P w = .ok (.slice (some ⟨w.heap.size, 0, none⟩) len len) (w.alloc (.cells arr' e)) := by
          have hlim' : ¬ (len * n > 2 ^ 24) := by omega
          have hzero : (if len * n = 0 then pure #[] else do pure (← zeroValue e).cells : Sem (Array Value)).run P w = .ok (if len * n = 0 then #[] else zv.cells) w := by
            split
            · rfl
            · simp [zeroValue, typeInfo, hi, hzv]
          have hcells : (Array.range (len * n)).map ((if len * n = 0 then #[] else zv.cells)[· % (if len * n = 0 then #[] else zv.cells).size]!) = (Array.range (len * n)).map (zv.cells[· % zv.cells.size]!) := by
            split
            · rename_i h0; rw [h0]; simp
            · rfl
          unfold Instr.buildSlice
          simp only [Sem.run_bind, run_underlying hus, hs, Result.andThen_ok, if_neg hlim', Sem.run_pure, hzero, hcells]
          by_cases hl0 : len * n = 0
          · rw [if_pos hl0]
            have h1' : Instr.fill (fun i => some (i * n, n)) ((Array.range (len * n)).map (fun x => (#[] : Array Value)[x % (#[] : Array Value).size]!)) (parts.map fun x => (x.1, a.eval x.2)).toList = some arr' := by
              have e0 : ∀ f : Nat → Value, (Array.range (len * n)).map f = #[] := by
                intro f
                rw [hl0]
                simp
              rw [e0]
              rw [e0] at h1
              exact h1
            simp only [pure_bind, h1']
            rfl
          · rw [if_neg hl0]
            have hz' : (zeroValue e).run P w = .ok zv w := by simp [zeroValue, typeInfo, hi, hzv]
            simp only [Sem.run_bind, hz', Result.andThen_ok, Sem.run_pure, h1]
            rfl
        obtain ⟨inf, hL, g1, g2, g3, g4, hS', hE⟩ := hS.alloc id ⟨e, n, ag, 0, false, cs⟩ arr' hb hid hn0 rfl (by simp; omega) h4
        refine ⟨.slice (some ⟨w.heap.size, 0, none⟩) len len, _, F, _, .inl ?_, hE, hS', ?_⟩
        · simp only [execOp, hop, Sem.run_bind]
          rw [hrun]
          rfl
        · have := RepU.own (F := F) id 0 len len inf hL (Nat.le_refl _) (by rw [g3, g4, h2, h3, hrl, hzl, Nat.zero_add]; exact Nat.le_refl _)
          rw [g1, g2] at this
          simpa using this
      · simp at h
    · simp at h
  · simp at h
end
end Go.Proofs.Ytjofhegodknmaaa.V
