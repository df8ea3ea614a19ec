/- V, 6: slices of slices, append, make, literals, and all operations together. -/
import Derived.Test.YtjofhegodknmaaaV5
set_option linter.unusedSimpArgs false
set_option linter.unusedVariables false
namespace Go.Proofs.Ytjofhegodknmaaa.V
open Go
variable [Sig]
section
variable {P : Program} {a : Act} {o : Oper} {w : World} {F : Mem} {L : Lay} {b0 : Nat} {g : Nat → Option Obj} {tm : List U}
theorem bound_val {x : Option Operand} {ou : Option U} {d n : Nat} (hx : optU tm x = some ou) (hb : bound d ou = some n) (hT : TR F L tm a.tmps) :
    (x.map a.eval = none ∧ n = d) ∨ ∃ k i, x.map a.eval = some (.int k i) ∧ 0 ≤ i ∧ n = i.toNat := by
  cases x with
  | none =>
    simp [optU] at hx
    subst hx
    simp [bound] at hb
    exact .inl ⟨rfl, hb.symm⟩
  | some x =>
    simp only [optU] at hx
    obtain ⟨u, hu, rfl⟩ := Option.map_eq_some_iff.1 hx
    have hr := eval_rep hT hu
    unfold bound at hb
    split at hb
    · rename_i h; simp at h
    · rename_i k i h
      obtain rfl := Option.some.inj h
      split at hb
      · rename_i h0
        exact .inr ⟨k, i, by simp [ix_inv hr], h0, (Option.some.inj hb).symm⟩
      · simp at hb
    · simp at hb
theorem run_sliceBounds {lo hi : Option Value} {len cap A B : Nat} (hlo : (lo = none ∧ A = 0) ∨ ∃ k i, lo = some (.int k i) ∧ 0 ≤ i ∧ A = i.toNat) (hhi : (hi = none ∧ B = len) ∨ ∃ k i, hi = some (.int k i) ∧ 0 ≤ i ∧ B = i.toNat)
    (hAB : A ≤ B) (hB : B ≤ cap) : (Instr.sliceBounds true len cap lo hi none).run P w = .ok (A, B, cap) w := by
  have _s : Sig := inferInstance
  have h1 : ∀ (k : IntKind) (i : Int) (y : Nat) (c : BoundsCode), 0 ≤ i → i.toNat ≤ y → (Instr.sliceBound (.int k i) y c).run P w = .ok i.toNat w := by
    intro k i y c h0 h1
    have : i ≤ (y : Int) := by omega
    simp [Instr.sliceBound, asIntOf, h0, this]
  rcases hlo with ⟨rfl, rfl⟩ | ⟨k, i, rfl, h0, rfl⟩ <;> rcases hhi with ⟨rfl, rfl⟩ | ⟨k', i', rfl, h0', rfl⟩
  · simp [Instr.sliceBounds]
  · simp [Instr.sliceBounds, h1 k' i' _ _ h0' hB]
  · simp [Instr.sliceBounds, h1 k i _ _ h0 hAB]
  · simp [Instr.sliceBounds, h1 k' i' _ _ h0' hB, h1 k i _ _ h0 hAB]
theorem slice_ok {t : TypeId} {x : Operand} {lo hi mx : Option Operand} {r : Res} (hop : o.op = .slice t x lo hi mx) (h : (evalU tm x).bind (fun u => opSlice P g tm t u lo hi mx) = some r) (hS : SR w F L b0 g) (hT : TR F L tm a.tmps) : OpOk P a o w F L b0 g r := by
  replace h := Option.bind_eq_some_iff.1 h
  obtain ⟨u, hu, h⟩ := h
  have hr := eval_rep hT hu
  unfold opSlice at h
  split at h
  · rename_i l hh e hlo hhi hus
    have hrun : ∀ (ad : Option Addr) (len cap A B sz : Nat), a.eval x = .slice ad len cap → sizeT P e = some sz → ((lo.map a.eval = none ∧ A = 0) ∨ ∃ k i, lo.map a.eval = some (.int k i) ∧ 0 ≤ i ∧ A = i.toNat) → ((hi.map a.eval = none ∧ B = len) ∨ ∃ k i, hi.map a.eval = some (.int k i) ∧ 0 ≤ i ∧ B = i.toNat) → A ≤ B → B ≤ cap →
        (execOp a.eval o).run P w = .ok (.value (.slice (if cap = A then ad else ad.map (·.add (A * sz))) (B - A) (cap - A))) w := by
      intro ad len cap A B sz hv hsz h1 h2 h3 h4
      have hb := run_sliceBounds (P := P) (w := w) h1 h2 h3 h4
      have hs := run_sizeOf hsz w
      simp [execOp, hop, Instr.sliceAt, run_underlying hus, Instr.slice, hv, hb, hs]
    split at h
    · rename_i es
      split at h
      · rename_i A B sz hA hB hsz
        split at h
        · rename_i hcond
          obtain ⟨h1, h2, hall⟩ := hcond
          obtain rfl := Option.some.inj h
          have hrl := dat_inv hr
          generalize hv : a.eval x = v at hrl
          cases hrl with
          | lst _ ad c sz' val hc hsz' ho hF hR =>
            refine .quiet hS rfl (hrun _ _ _ A B sz hv hsz (bound_val hlo hA hT) (bound_val hhi hB hT) h1 (by omega)) (.dat _ _ ?_)
            have hlen : ((es.take B).drop A).length = B - A := by simp; omega
            have hget : ∀ (i : Nat) x, ((es.take B).drop A)[i]? = some x → es[A + i]? = some x := by
              intro i x hx
              rw [List.getElem?_drop, List.getElem?_take] at hx
              split at hx
              · exact hx
              · simp at hx
            by_cases hcA : c = A
            · have he : (es.take B).drop A = [] := List.eq_nil_of_length_eq_zero (by omega)
              rw [if_pos hcA, he]
              have : B - A = 0 := by omega
              rw [this]
              exact .lst [] ad (c - A) 0 (fun _ _ => Go.undef) (by simp) (fun x hx => by simp at hx) (fun i x j y hx => by simp at hx) (fun i x j y hx => by simp at hx) (fun i x j y hx => by simp at hx)
            · rw [if_neg hcA]
              by_cases hemp : A < B
              · have hszz : sz' = sz := by
                  have h3 : ∃ d, es[A]? = some d := ⟨es[A], List.getElem?_eq_getElem (by omega)⟩
                  obtain ⟨d, hd⟩ := h3
                  have h4 := hsz' d (List.mem_of_getElem? hd)
                  have h5 := List.all_eq_true.1 hall d (List.mem_of_getElem? hd)
                  simp at h5
                  omega
                subst hszz
                have key := Rep.lst (F := F) ((es.take B).drop A) (ad.add (A * sz')) (c - A) sz' (fun i j => val (A + i) j) (by omega) (fun x hx => by
                    obtain ⟨i, hi⟩ := List.getElem?_of_mem hx
                    exact hsz' x (List.mem_of_getElem? (hget i x hi)))
                  (fun i x j y hx hy => ho _ x j y (hget i x hx) hy)
                  (fun i x j y hx hy => by
                    rw [add_add']
                    have := hF _ x j y (hget i x hx) hy
                    rw [← this]
                    congr 2
                    rw [Nat.add_mul]
                    omega)
                  (fun i x j y hx hy => hR _ x j y (hget i x hx) hy)
                rw [hlen] at key
                exact key
              · have he : (es.take B).drop A = [] := List.eq_nil_of_length_eq_zero (by omega)
                rw [he]
                have : B - A = 0 := by omega
                rw [this]
                exact .lst [] _ (c - A) 0 (fun _ _ => Go.undef) (by simp) (fun x hx => by simp at hx) (fun i x j y hx => by simp at hx) (fun i x j y hx => by simp at hx) (fun i x j y hx => by simp at hx)
        · simp at h
      · simp at h
    · split at h
      · rename_i sz hA hB hsz
        obtain rfl := Option.some.inj h
        have hv : a.eval x = .slice none 0 0 := by
          have hrn := dat_inv hr
          generalize a.eval x = v at hrn
          cases hrn
          rfl
        have hb := run_sliceBounds (P := P) (w := w) (cap := 0) (bound_val hlo hA hT) (bound_val hhi hB hT) (Nat.le_refl 0) (Nat.le_refl 0)
        have hs := run_sizeOf hsz w
        refine .quiet hS rfl (v := .slice none 0 0) ?_ (.dat _ _ .nil)
        simp [execOp, hop, Instr.sliceAt, run_underlying hus, Instr.slice, hv, hb, hs]
      · simp at h
    · rename_i x' gn off n
      split at h
      · rename_i A B ob sz hA hB hg hsz
        split at h
        · rename_i hcond
          obtain ⟨hgn, hse, _, h1, h2⟩ := hcond
          obtain rfl := Option.some.inj h
          obtain ⟨inf, ad, c, hL, hig, hie, hv, hnc, had⟩ := own_now hS hg hgn hr
          refine .quiet hS rfl (hrun _ _ _ A B sz hv hsz (bound_val hlo hA hT) (bound_val hhi hB hT) h1 (by omega)) ?_
          subst hig
          by_cases hcA : c = A
          · have : B - A = 0 := by omega
            rw [if_pos hcA, this]
            have : c - A = 0 := by omega
            rw [this]
            exact .ownEnd x' (off + A) inf ad hL
          · rw [if_neg hcA]
            obtain ⟨rfl, hcap⟩ := had (by omega)
            have e1 : (some (⟨inf.blk, off * inf.esz, none⟩ : Addr)).map (·.add (A * sz)) = some ⟨inf.blk, (off + A) * inf.esz, none⟩ := by
              simp only [Option.map_some, add_none]
              congr 2
              rw [hse, ← hie, Nat.add_mul]
            rw [e1]
            refine .own x' (off + A) (B - A) (c - A) inf hL (by omega) ?_
            have : off + A + (c - A) = off + c := by omega
            rw [this]
            exact hcap
        · simp at h
      · simp at h
    · simp at h
  · simp at h
theorem flat_get (esz : Nat) (h0 : 0 < esz) : ∀ (l : List D), (∀ d ∈ l, d.cells.length = esz) → (l.flatMap D.cells).length = l.length * esz ∧
    ∀ (k : Nat) y, (l.flatMap D.cells)[k]? = some y → ∃ d, l[k / esz]? = some d ∧ d.cells[k % esz]? = some y := by
  have _s : Sig := inferInstance
  intro l
  induction l with
  | nil => intro _; exact ⟨by simp, fun k y h => by simp at h⟩
  | cons d l ih =>
    intro hall
    obtain ⟨h1, h2⟩ := ih (fun x hx => hall x (List.mem_cons_of_mem _ hx))
    have hd := hall d List.mem_cons_self
    refine ⟨by simp [List.flatMap_cons, h1, hd, Nat.add_mul]; omega, fun k y hy => ?_⟩
    rw [List.flatMap_cons] at hy
    by_cases hk : k < esz
    · rw [List.getElem?_append_left (by omega)] at hy
      rw [Nat.div_eq_of_lt hk, Nat.mod_eq_of_lt hk]
      exact ⟨d, rfl, hy⟩
    · rw [List.getElem?_append_right (by omega), hd] at hy
      obtain ⟨x, hx, hxy⟩ := h2 _ y hy
      have e1 : k / esz = (k - esz) / esz + 1 := by
        have : k = (k - esz) + esz := by omega
        rw [this, Nat.add_div_right _ h0]
        simp
      have e2 : k % esz = (k - esz) % esz := by
        have : k = (k - esz) + esz := by omega
        conv => lhs; rw [this]
        rw [Nat.add_mod_right]
      rw [e1, e2]
      exact ⟨x, by simpa using hx, hxy⟩
theorem src_ok {esz : Nat} {u : U} {v : Value} {xs : List U} {m : Nat} {rd : List Nat} {tx : TypeId} (h : srcCells g esz u = some (xs, m, rd)) (h0 : 0 < esz) (hS : SR w F L b0 g) (hr : RepU F L u v) (htx : isRowT P tx = true) :
    ∃ news : List Value, news.length = xs.length ∧ xs.length = m * esz ∧ (∀ (j : Nat) u, xs[j]? = some u → u.one = true ∧ ∃ y, news[j]? = some y ∧ RepU F L u y) ∧ Src P esz tx v m news w := by
  have hkind : (∃ e', P.underlying tx = some (.slice e')) ∨ P.underlying tx = some .string := by
    unfold isRowT at htx
    split at htx
    · rename_i e' h; exact .inl ⟨e', h⟩
    · rename_i h; exact .inr h
    · simp at htx
  have one_of : ∀ (news : List Value), news.length = xs.length → (∀ (j : Nat) u, xs[j]? = some u → u.one = true ∧ ∃ y, news[j]? = some y ∧ RepU F L u y) → ∀ y ∈ news, y.oneCell' = true := by
    intro news hl hx y hy
    obtain ⟨j, hj⟩ := List.getElem?_of_mem hy
    have hlt : j < xs.length := by rw [← hl]; exact (List.getElem?_eq_some_iff.1 hj).1
    obtain ⟨h1, z, hz, hrz⟩ := hx j xs[j] (List.getElem?_eq_getElem hlt)
    rw [hj] at hz
    obtain rfl := Option.some.inj hz
    exact hrz.oneCell h1
  cases u with
  | dat d =>
    have hrd := dat_inv hr
    cases d with
    | nil =>
      simp [srcCells] at h
      obtain ⟨rfl, rfl, rfl⟩ := h
      generalize hv : v = v' at hrd
      cases hrd
      subst hv
      refine ⟨[], rfl, by simp, fun j u hu => by simp at hu, hkind, fun _ => rfl, run_firstCells_none w esz 0 0 0, run_firstCells_none w.drew esz 0 0 0, by simp, fun _ h => by simp at h⟩
    | lst l =>
      simp only [srcCells] at h
      split at h
      · rename_i hall
        simp only [Option.some.injEq, Prod.mk.injEq] at h
        obtain ⟨rfl, rfl, rfl⟩ := h
        have hall' : ∀ d ∈ l, d.cells.length = esz := fun d hd => by simpa using List.all_eq_true.1 hall d hd
        obtain ⟨hlen, hget⟩ := flat_get esz h0 l hall'
        cases hrd with
        | lst _ ad c sz val hc hsz ho hF hR =>
          have hx : ∀ (j : Nat) u, ((l.flatMap D.cells).map U.dat)[j]? = some u → u.one = true ∧ RepU F L u (val (j / esz) (j % esz)) ∧ F (ad.add j) = some (val (j / esz) (j % esz)) := by
            intro j u hu
            rw [List.getElem?_map] at hu
            obtain ⟨y, hy, rfl⟩ := Option.map_eq_some_iff.1 hu
            obtain ⟨d, hd, hdy⟩ := hget j y hy
            have hszz : sz = esz := by rw [← hsz d (List.mem_of_getElem? hd), hall' d (List.mem_of_getElem? hd)]
            subst hszz
            refine ⟨ho _ d _ y hd hdy, .dat _ _ (hR _ d _ y hd hdy), ?_⟩
            have := hF _ d _ y hd hdy
            rw [Nat.div_add_mod' j sz] at this
            exact this
          have hnl : ((List.range (l.length * esz)).map fun j => val (j / esz) (j % esz)).length = ((l.flatMap D.cells).map U.dat).length := by simp [hlen]
          have hxx : ∀ (j : Nat) u, ((l.flatMap D.cells).map U.dat)[j]? = some u → u.one = true ∧ ∃ y, ((List.range (l.length * esz)).map fun j => val (j / esz) (j % esz))[j]? = some y ∧ RepU F L u y := by
            intro j u hu
            obtain ⟨h1, h2, h3⟩ := hx j u hu
            have hlt : j < l.length * esz := by have := (List.getElem?_eq_some_iff.1 hu).1; simpa [hlen] using this
            exact ⟨h1, _, by simp [hlt], h2⟩
          have hcell : ∀ (j : Nat) y, ((List.range (l.length * esz)).map fun j => val (j / esz) (j % esz))[j]? = some y → w.cell? (ad.add j) = some y := by
            intro j y hy
            have hlt : j < l.length * esz := by have := (List.getElem?_eq_some_iff.1 hy).1; simpa using this
            simp [hlt] at hy
            subst hy
            have hlt2 : j < ((l.flatMap D.cells).map U.dat).length := by simp [hlen]; exact hlt
            exact hS.mem _ _ (hx j _ (List.getElem?_eq_getElem hlt2)).2.2
          refine ⟨_, hnl, by simp [hlen], hxx, hkind, fun _ => rfl, run_firstCells_some w esz _ ad _ c _ (by simp) hcell, run_firstCells_some w.drew esz _ ad _ c _ (by simp) (by simpa using hcell), by simp, one_of _ hnl hxx⟩
      · simp at h
    | str s =>
      simp only [srcCells] at h
      split at h
      · rename_i he
        simp only [Option.some.injEq, Prod.mk.injEq] at h
        obtain ⟨rfl, rfl, rfl⟩ := h
        subst he
        cases hrd with
        | str =>
          have hnl : (byteCells s).length = (bytesU s).length := by simp [byteCells, bytesU]
          have hxx : ∀ (j : Nat) u, (bytesU s)[j]? = some u → u.one = true ∧ ∃ y, (byteCells s)[j]? = some y ∧ RepU F L u y := by
            intro j u hu
            unfold bytesU at hu
            rw [List.getElem?_map] at hu
            obtain ⟨b, hb, rfl⟩ := Option.map_eq_some_iff.1 hu
            exact ⟨rfl, .int .u8 b.toNat, by simp only [byteCells, List.getElem?_map, hb, Option.map_some], .dat _ _ (.int ..)⟩
          refine ⟨byteCells s, hnl, by rw [← hnl, byteCells_length, Nat.mul_one], hxx, hkind, fun _ => rfl, firstCells_string s w, firstCells_string s w.drew, by rw [byteCells_length, Nat.mul_one], one_of _ hnl hxx⟩
      · simp at h
    | _ => simp [srcCells] at h
  | own x gn off n =>
    simp only [srcCells] at h
    split at h
    · rename_i ob hg
      split at h
      · rename_i hcond
        obtain ⟨hgn, hes, hlen⟩ := hcond
        simp only [Option.some.injEq, Prod.mk.injEq] at h
        obtain ⟨rfl, rfl, rfl⟩ := h
        obtain ⟨inf, ad, c, hL, hig, hie, rfl, hnc, had⟩ := own_now hS hg hgn hr
        have hlen' : off * esz + n * esz ≤ ob.cells.length := by rw [← Nat.add_mul]; exact hlen
        obtain ⟨vs, hvl, hc, hR, ho⟩ := hS.cells hg hL (by rw [hes]; exact h0) (off * esz) (n * esz) hlen'
        have hxl : ((ob.cells.drop (off * esz)).take (n * esz)).length = n * esz := by simp; omega
        have hxx : ∀ (j : Nat) u, ((ob.cells.drop (off * esz)).take (n * esz))[j]? = some u → u.one = true ∧ ∃ y, vs[j]? = some y ∧ RepU F L u y := by
          intro j u hu
          have hlt : j < vs.length := by rw [hvl, ← hxl]; exact (List.getElem?_eq_some_iff.1 hu).1
          exact ⟨ho j u hu, vs[j], List.getElem?_eq_getElem hlt, hR j u _ hu (List.getElem?_eq_getElem hlt)⟩
        have hcell : ∀ (j : Nat) y, vs[j]? = some y → w.cell? (ad.add j) = some y := by
          intro j y hy
          have hlt : j < vs.length := (List.getElem?_eq_some_iff.1 hy).1
          have hn0 : 0 < n := by
            rcases Nat.eq_zero_or_pos n with h | h
            · subst h; rw [Nat.zero_mul] at hvl; omega
            · exact h
          obtain ⟨rfl, _⟩ := had (by omega)
          rw [add_none, hie, hes]
          exact hc j y hy
        refine ⟨vs, by omega, hxl, hxx, hkind, fun _ => rfl, run_firstCells_some w esz n ad n c vs hvl hcell, run_firstCells_some w.drew esz n ad n c vs hvl (by simpa using hcell), hvl, one_of vs (by omega) hxx⟩
      · simp at h
    · simp at h
  | _ => simp [srcCells] at h
theorem grownCap_le (w : World) (need old : Nat) (e : TypeId) : need ≤ grownCap w need old e := by
  have _s : Sig := inferInstance
  simp [grownCap, Question.cut]
theorem zeroCells_size (z : Array Value) (n : Nat) : (Builtin.zeroCells z n).size = n * z.size := by have _s : Sig := inferInstance; simp [Builtin.zeroCells]
theorem append_ok {id : Nat} {t tx : TypeId} {c : Call} {s x : Operand} {r : Res} (hop : o.op = .call c) (hcal : c.callee = .builtin .append) (hargs : c.args.toList = [s, x]) (htys : c.argTypes.toList = [t, tx])
    (h : (evalU tm s).bind (fun u => (evalU tm x).bind (opAppend P g id t tx u)) = some r) (hS : SR w F L b0 g) (hT : TR F L tm a.tmps) (hid : g id = none) (hb : b0 ≤ w.heap.size) : OpOk P a o w F L b0 g r := by
  replace h := Option.bind_eq_some_iff.1 h
  obtain ⟨u, hu, h⟩ := h
  replace h := Option.bind_eq_some_iff.1 h
  obtain ⟨z, hz, h⟩ := h
  have hr := eval_rep hT hu
  have hrz := eval_rep hT hz
  have hca : c.args = #[s, x] := by rw [← Array.toArray_toList (xs := c.args), hargs]
  have hct : c.argTypes = #[t, tx] := by rw [← Array.toArray_toList (xs := c.argTypes), htys]
  have hexec : ∀ v w', (Builtin.append_ #[t, tx] o.type #[a.eval s, a.eval x]).run P w = .ok v w' → (execOp a.eval o).run P w = .ok (.value v) w' := by
    intro v w' hv
    simp [execOp, hop, resolve, hcal, hca, hct, invoke, builtin, hv]
  unfold opAppend at h
  split at h
  · rename_i htx
    split at h
    · rename_i e hus
      split at h
      · rename_i i ag zc hi ha hzc
        split at h
        · rename_i hcond
          obtain ⟨hsz, hby, hzl⟩ := hcond
          obtain ⟨i', zv, hi', hzv, hzm⟩ := zeroT_info hzc
          rw [hi] at hi'
          obtain rfl := Option.some.inj hi'
          have hzs : zv.cells.size = i.size := by rw [← hzl, (mapM_some hzm).1]; simp
          split at h
          · rename_i xs m rd hsrc
            obtain ⟨news, hnl, hxm, hxs, hSrc⟩ := src_ok hsrc hsz hS hrz htx
            split at h
            · -- onto nil
              have hv : a.eval s = .slice none 0 0 := by
                have hrn := dat_inv hr
                generalize a.eval s = v at hrn
                cases hrn
                rfl
              split at h
              · rename_i hm
                subst hm
                obtain rfl := Option.some.inj h
                have hn0 : news = [] := List.eq_nil_of_length_eq_zero (by omega)
                subst hn0
                exact .quiet hS rfl (hexec _ _ (by rw [hv]; exact run_append_nothing w t tx _ e i hus hi none 0 0 (Nat.le_refl 0) _ hSrc)) (.dat _ _ .nil)
              · rename_i hm
                split at h
                · rename_i hbd
                  obtain rfl := Option.some.inj h
                  have hm64 : m ≤ 140737488355328 := Nat.le_trans (Nat.le_mul_of_pos_right m hby) hbd
                  have hrun := run_append_grow_src (P := P) w t tx o.type e i zv hus hi hzv none 0 0 [] (by simp [Builtin.firstCells]) (a.eval x) m news hSrc (by omega) (by omega) (growslice_fits (by omega) (by simpa using hbd))
                  simp only [Nat.zero_add, List.nil_append] at hrun
                  have hge := grownCap_le w m 0 e
                  obtain ⟨inf, hL, h1, h2, h3, h4, hS', hE⟩ := hS.drew.alloc id ⟨e, i.size, ag, 0, false, xs⟩ (news.toArray ++ Builtin.zeroCells zv.cells (grownCap w m 0 e - m)) hb hid hsz rfl (by simp; omega)
                    (fun j u hu => by
                      obtain ⟨ho, y, hy, hry⟩ := hxs j u hu
                      refine ⟨ho, y, ?_, hry⟩
                      have hlt : j < news.length := (List.getElem?_eq_some_iff.1 hy).1
                      rw [Array.getElem?_append_left (by simpa using hlt)]
                      simpa using hy)
                  refine ⟨_, _, F, _, .inl (hexec _ _ (by rw [hv]; exact hrun)), hE.ofDrew, hS', ?_⟩
                  have := RepU.own (F := F) id 0 m (grownCap w m 0 e) inf hL hge (by
                    rw [h3, h4]
                    simp [zeroCells_size, hzs, hnl, hxm, ← Nat.add_mul]
                    exact Nat.mul_le_mul_right _ (by omega))
                  rw [h1, h2] at this
                  simpa using this
                · simp at h
            · -- onto a row of one's own
              rename_i x' gn off n
              split at h
              · rename_i ob hg
                split at h
                · rename_i hcond2
                  obtain ⟨hgn, hoff, hnl2, hes, hty⟩ := hcond2
                  subst hoff
                  obtain ⟨inf, ad, cp, hL, hig, hie, hv, hnc, had⟩ := own_now hS hg hgn hr
                  split at h
                  · rename_i hm
                    subst hm
                    obtain rfl := Option.some.inj h
                    have hn0 : news = [] := List.eq_nil_of_length_eq_zero (by omega)
                    subst hn0
                    refine .quiet hS rfl (v := a.eval s) (hexec _ _ ?_) hr
                    have := run_append_nothing (P := P) w t tx o.type e i hus hi (some ad) n cp hnc _ hSrc
                    rw [hv]
                    exact this
                  · rename_i hm
                    split at h
                    · rename_i hbd
                      obtain rfl := Option.some.inj h
                      have hm64 : n + m ≤ 140737488355328 := Nat.le_trans (Nat.le_mul_of_pos_right _ hby) hbd
                      obtain ⟨inf', arr, hL', r1, r2, r3, r4, hh0, r5, hcs, hfr⟩ := hS.obj x' ob hg
                      have he0 : 0 < ob.esz := by rw [hes]; exact hsz
                      have hh := hh0.row he0
                      have r3 := r3 he0
                      rw [hL] at hL'
                      obtain rfl := Option.some.inj hL'
                      by_cases hroom : n + m ≤ cp
                      · -- there is room
                        obtain ⟨rfl, hcap⟩ := had (by omega)
                        have hnml : news.length = m * i.size := by omega
                        have hfit : n * i.size + news.length ≤ arr.size := by
                          rw [hnml, ← Nat.add_mul]
                          have h5 : (n + m) * i.size ≤ (0 + cp) * inf.esz := by rw [hie, hes, Nat.zero_add]; exact Nat.mul_le_mul_right _ hroom
                          omega
                        have hst := storeCells_row (P := P) (o := n * i.size) news hh (by omega) hSrc.one
                        have hrun : (Builtin.append_ #[t, tx] o.type #[.slice (some ⟨inf.blk, 0 * inf.esz, none⟩) n cp, a.eval x]).run P w = .ok (.slice (some ⟨inf.blk, 0 * inf.esz, none⟩) (n + m) cp) (w.setRow inf.blk (arr.toList.take (n * i.size + 0) ++ news ++ arr.toList.drop (n * i.size + 0 + news.length)).toArray) := by
                          have hlen := hSrc.len
                          have hcells := hSrc.cells
                          rcases hSrc.kind with ⟨e', hk⟩ | hk <;>
                            simp [Builtin.append_, run_underlying hus, run_underlying hk, sizeOf, typeInfo, hi, hlen, hroom, hcells, add_none, hst]
                        obtain ⟨hS', hE⟩ := hS.upd (w' := w.setRow inf.blk (arr.toList.take (n * i.size + 0) ++ news ++ arr.toList.drop (n * i.size + 0 + news.length)).toArray) x' { ob with gen := gn + 1, cells := ob.cells ++ xs } ⟨gn + 1, inf.blk, arr.size, inf.esz⟩
                          (arr.toList.take (n * i.size + 0) ++ news ++ arr.toList.drop (n * i.size + 0 + news.length)).toArray (by simp [World.setRow]) rfl rfl rfl
                          (fun k _ hk => by simp only [World.setRow]; rw [Array.getElem?_modify]; simp [Ne.symm hk])
                          (.inl ⟨he0, hh.setRow (by simp; omega)⟩) (fun h => absurd h (by show ¬ ob.esz = 0; omega)) (fun _ => by simp; omega) rfl r2 r4 (by simp; omega)
                          (fun off v hF => by
                            have hlt : off < ob.cells.length := by
                              apply Classical.byContradiction
                              intro hge
                              rw [hfr off (fun _ => by omega)] at hF
                              simp at hF
                            have hc := hS.mem _ _ hF
                            rw [hh.cell] at hc
                            simp only [List.getElem?_toArray, Nat.add_zero]
                            rw [List.getElem?_append_left (by simp; omega), List.getElem?_append_left (by simp; omega), List.getElem?_take_of_lt (by omega)]
                            simpa using hc)
                          (fun off hoff => hfr off (fun hs => by have := hoff hs; simp at this; omega))
                          (.inl ⟨inf, hL, rfl, .inr (by simp; omega)⟩)
                          (fun j u hu => by
                            by_cases hj : j < ob.cells.length
                            · rw [List.getElem?_append_left hj] at hu
                              obtain ⟨ho, v, hv', hrv⟩ := hcs j u hu
                              refine ⟨ho, v, ?_, .inl hrv⟩
                              simp only [List.getElem?_toArray, Nat.add_zero]
                              rw [List.getElem?_append_left (by simp; omega), List.getElem?_append_left (by simp; omega), List.getElem?_take_of_lt (by omega)]
                              simpa using hv'
                            · rw [List.getElem?_append_right (by omega)] at hu
                              obtain ⟨ho, v, hv', hrv⟩ := hxs _ u hu
                              refine ⟨fun _ => ho, v, ?_, .inl hrv⟩
                              have hlt : j - ob.cells.length < news.length := (List.getElem?_eq_some_iff.1 hv').1
                              simp only [List.getElem?_toArray, Nat.add_zero]
                              rw [List.getElem?_append_left (by simp; omega), List.getElem?_append_right (by simp; omega)]
                              have : (arr.toList.take (n * i.size)).length = ob.cells.length := by simp; omega
                              rw [this]
                              exact hv')
                        refine ⟨_, _, F, _, .inl (hexec _ _ (by rw [hv]; exact hrun)), hE, hS', ?_⟩
                        have := RepU.own (F := F) x' 0 (n + m) cp ⟨gn + 1, inf.blk, arr.size, inf.esz⟩ (by simp [LPut] : LPut L x' ⟨gn + 1, inf.blk, arr.size, inf.esz⟩ x' = _) hroom (by rw [← r3]; exact hcap)
                        exact this
                      · -- there is none
                        have hnc2 : cp < n + m := by omega
                        obtain ⟨vs, hvl, hc, hR, ho⟩ := hS.cells hg hL he0 0 (n * i.size) (by omega)
                        have hdrop : (ob.cells.drop 0).take (n * i.size) = ob.cells := by rw [List.drop_zero, List.take_of_length_le (by omega)]
                        rw [hdrop] at hR ho
                        have hold : (Builtin.firstCells i.size n (.slice (some ad) n cp)).run P w.drew = .ok vs.toArray w.drew := by
                          refine run_firstCells_some w.drew i.size n ad n cp vs hvl (fun j v hv' => ?_)
                          rw [World.cell?_drew]
                          have hlt : j < vs.length := (List.getElem?_eq_some_iff.1 hv').1
                          have hn0 : 0 < n := by
                            rcases Nat.eq_zero_or_pos n with h | h
                            · subst h; rw [Nat.zero_mul] at hvl; omega
                            · exact h
                          obtain ⟨rfl, _⟩ := had (by omega)
                          rw [add_none]
                          simpa using hc j v hv'
                        have hrun := run_append_grow_src (P := P) w t tx o.type e i zv hus hi hzv (some ad) n cp vs hold (a.eval x) m news hSrc hnc2 (by omega) (growslice_fits hnc2 hbd)
                        have hge := grownCap_le w (n + m) cp e
                        have hsize : ((vs ++ news).toArray ++ Builtin.zeroCells zv.cells (grownCap w (n + m) cp e - (n + m))).size = grownCap w (n + m) cp e * i.size := by
                          simp [zeroCells_size, hzs, hvl, hnl, hxm, ← Nat.add_mul]
                          congr 1
                          omega
                        have hlen2 : (vs ++ news).length = (n + m) * i.size := by simp [hvl, hnl, hxm, Nat.add_mul]
                        obtain ⟨hS', hE⟩ := hS.drew.upd (w' := w.drew.alloc (.cells ((vs ++ news).toArray ++ Builtin.zeroCells zv.cells (grownCap w (n + m) cp e - (n + m))) e)) x' { ob with gen := gn + 1, cells := ob.cells ++ xs }
                          ⟨gn + 1, w.heap.size, ((vs ++ news).toArray ++ Builtin.zeroCells zv.cells (grownCap w (n + m) cp e - (n + m))).size, inf.esz⟩ ((vs ++ news).toArray ++ Builtin.zeroCells zv.cells (grownCap w (n + m) cp e - (n + m)))
                          (by simp) rfl rfl rfl (fun k hk _ => heap_old w.drew _ hk) (.inl ⟨he0, by rw [show ob.ty = e from hty]; exact .new (heap_alloc_new w.drew _)⟩) (fun h => absurd h (by show ¬ ob.esz = 0; omega)) (fun _ => rfl) rfl r2 hb
                          (by
                            simp only [List.length_append]
                            have := Nat.mul_le_mul_right i.size hge
                            rw [hsize]
                            rw [Nat.add_mul] at this
                            omega)
                          (fun off v hF => by rw [noF hS (a := ⟨w.heap.size, off, none⟩) (Nat.le_refl _)] at hF; simp at hF)
                          (fun off _ => noF hS (Nat.le_refl _))
                          (.inr ⟨Nat.le_refl _, fun j hj => by rw [hL] at hj; obtain rfl := Option.some.inj hj; simp; omega⟩)
                          (fun j u hu => by
                            have key : ∀ y, (vs ++ news)[j]? = some y → ((vs ++ news).toArray ++ Builtin.zeroCells zv.cells (grownCap w (n + m) cp e - (n + m)))[j]? = some y := by
                              intro y hy
                              rw [Array.getElem?_append_left (by simpa using (List.getElem?_eq_some_iff.1 hy).1)]
                              simpa using hy
                            by_cases hj : j < ob.cells.length
                            · rw [List.getElem?_append_left hj] at hu
                              have hlt : j < vs.length := by omega
                              exact ⟨fun _ => ho j u hu, vs[j], key _ (by rw [List.getElem?_append_left hlt]; exact List.getElem?_eq_getElem hlt), .inl (hR j u _ hu (List.getElem?_eq_getElem hlt))⟩
                            · rw [List.getElem?_append_right (by omega)] at hu
                              obtain ⟨ho', v, hv', hrv⟩ := hxs _ u hu
                              exact ⟨fun _ => ho', v, key _ (by rw [List.getElem?_append_right (by omega), hvl, hnl2]; exact hv'), .inl hrv⟩)
                        refine ⟨_, _, F, _, .inl (hexec _ _ (by rw [hv]; exact hrun)), hE.ofDrew, hS', ?_⟩
                        have hL2 : LPut L x' ⟨gn + 1, w.heap.size, ((vs ++ news).toArray ++ Builtin.zeroCells zv.cells (grownCap w (n + m) cp e - (n + m))).size, inf.esz⟩ x' = some ⟨gn + 1, w.heap.size, ((vs ++ news).toArray ++ Builtin.zeroCells zv.cells (grownCap w (n + m) cp e - (n + m))).size, inf.esz⟩ := by
                          unfold LPut
                          rw [if_pos rfl]
                        have := RepU.own (F := F) x' 0 (n + m) (grownCap w (n + m) cp e) _ hL2 hge (by
                          show (0 + grownCap w (n + m) cp e) * inf.esz ≤ _
                          rw [hsize, hie, hes, Nat.zero_add]
                          exact Nat.le_refl _)
                        have e0 : 0 * inf.esz = 0 := Nat.zero_mul _
                        simp only [e0] at this
                        exact this
                    · simp at h
                · simp at h
              · simp at h
            · simp at h
          · simp at h
        · simp at h
      · simp at h
    · simp at h
  · simp at h
end
end Go.Proofs.Ytjofhegodknmaaa.V
