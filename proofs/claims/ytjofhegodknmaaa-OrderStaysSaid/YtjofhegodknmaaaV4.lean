/- V, 4: each operation does in the model what V says. -/
import Derived.Test.YtjofhegodknmaaaV3
set_option linter.unusedSimpArgs false
set_option linter.unusedVariables false
namespace Go.Proofs.Ytjofhegodknmaaa.V
open Go
variable [Sig]
def OpOk (P : Program) (a : Act) (o : Oper) (w : World) (F : Mem) (L : Lay) (b0 : Nat) (g : Nat → Option Obj) (r : Res) : Prop :=
  ∃ v w' F' L', ((execOp a.eval o).run P w = .ok (.value v) w' ∨ ((execOp a.eval o).run P w = .ok .skip w' ∧ v = Go.undef)) ∧
    Evo w F L w' F' L' ∧ SR w' F' L' b0 (updF g r.up) ∧ RepU F' L' r.u v
section
variable {P : Program} {a : Act} {o : Oper} {w : World} {F : Mem} {L : Lay} {b0 : Nat} {g : Nat → Option Obj} {tm : List U}
theorem OpOk.quiet {r : Res} {v : Value} (hS : SR w F L b0 g) (hup : r.up = []) (hrun : (execOp a.eval o).run P w = .ok (.value v) w) (hr : RepU F L r.u v) : OpOk P a o w F L b0 g r :=
  ⟨v, w, F, L, .inl hrun, .refl _ _ _, by rw [hup]; exact hS, hr⟩
theorem opPure_ok {r : Res} (h : opPure P tm o = some r) (hS : SR w F L b0 g) (hT : TR F L tm a.tmps) : OpOk P a o w F L b0 g r := by
  unfold opPure at h
  split at h
  · rename_i hall
    have hcong : ∀ x ∈ o.op.operands, ((evalU tm x).bind valU).getD Go.undef = a.eval x := by
      intro x hx
      have := (fun x (hx : x ∈ o.op.operands) => List.all_eq_true.1 hall x (by simpa using hx)) x hx
      obtain ⟨v', hv'⟩ := Option.isSome_iff_exists.1 this
      obtain ⟨u, hu, hv⟩ := Option.bind_eq_some_iff.1 hv'
      rw [hv']
      exact (valU_rep hv (eval_rep hT hu)).symm
    split at h
    · simp at h
    · rename_i hns
      have he := execOp_congr o (fun cs b e => hns cs b e) hcong
      rw [he] at h
      split at h
      · rename_i v hv
        obtain ⟨d, hd, rfl⟩ := Option.map_eq_some_iff.1 h
        exact .quiet hS rfl (pureSem_run P _ _ hv w) (.dat _ _ (constD_rep hd))
      · simp at h
  · simp at h
theorem sizeT_info {t : TypeId} {n : Nat} (h : sizeT P t = some n) : ∃ i, P.info? t = some i ∧ i.size = n := by
  have _s : Sig := inferInstance
  unfold sizeT at h
  exact Option.map_eq_some_iff.1 h
theorem run_sizeOf {t : TypeId} {n : Nat} (h : sizeT P t = some n) (w : World) : (sizeOf t).run P w = .ok n w := by
  obtain ⟨i, hi, rfl⟩ := sizeT_info h
  simp [sizeOf, typeInfo, hi]
theorem run_isAgg {t : TypeId} {b : Bool} (h : aggT P t = some b) (w : World) : (isAgg t).run P w = .ok b w := by
  have _s : Sig := inferInstance
  unfold aggT at h
  cases hu : P.underlying t with
  | none => simp [hu] at h
  | some d =>
    unfold isAgg
    rw [hu] at h
    cases d <;> simp_all [underlying]
theorem zeroT_info {t : TypeId} {z : List D} (h : zeroT P t = some z) : ∃ i v, P.info? t = some i ∧ i.zero = some v ∧ v.cells.toList.mapM const1 = some z := by
  have _s : Sig := inferInstance
  unfold zeroT at h
  split at h
  · rename_i i hi
    split at h
    · rename_i v hv
      exact ⟨i, v, hi, hv, h⟩
    · simp at h
  · simp at h
theorem zero_cells {l : List Value} {z : List D} (h : l.mapM const1 = some z) (F : Mem) (L : Lay) : ∀ (j : Nat) u, (z.map U.dat)[j]? = some u → u.one = true ∧ ∃ v, l[j]? = some v ∧ RepU F L u v := by
  intro j u hu
  rw [List.getElem?_map] at hu
  obtain ⟨d, hd, rfl⟩ := Option.map_eq_some_iff.1 hu
  obtain ⟨v, hv, hc⟩ := mapM_back h hd
  obtain ⟨h1, h2⟩ := const1_rep (F := F) hc
  exact ⟨h2, v, hv, .dat _ _ h1⟩
theorem opAlloc_ok {id : Nat} {t : TypeId} {cells : List U} {r : Res} (h : opAlloc P id t cells = some r) (hS : SR w F L b0 g) (hid : g id = none) (hb : b0 ≤ w.heap.size) (arr : Array Value)
    (hsz : cells.length ≤ arr.size) (hcells : ∀ (j : Nat) u, cells[j]? = some u → u.one = true ∧ ∃ v, arr[j]? = some v ∧ RepU F L u v)
    (hrun : (execOp a.eval o).run P w = .ok (.value (.pointer (some ⟨w.heap.size, 0, none⟩))) (w.alloc (.cells arr t))) : OpOk P a o w F L b0 g r := by
  unfold opAlloc at h
  split at h
  · rename_i n ag hn ha
    split at h
    · rename_i hcn
      obtain rfl := Option.some.inj h
      obtain ⟨i, hi, h1, h2, h3, h4, hS', hE⟩ := hS.alloc id ⟨t, n, ag, 0, false, cells⟩ arr hb hid hcn.2.1 rfl hsz hcells
      refine ⟨_, _, F, _, .inl hrun, hE, hS', ?_⟩
      have := RepU.ptr (F := F) id 0 i hi
      rw [h1, h2] at this
      exact this
    · simp at h
  · simp at h
theorem alloc_ok {id : Nat} {t : TypeId} {r : Res} (hop : o.op = .alloc t) (h : (zeroT P t).bind (fun z => opAlloc P id t (z.map .dat)) = some r) (hS : SR w F L b0 g) (hid : g id = none) (hb : b0 ≤ w.heap.size) :
    OpOk P a o w F L b0 g r := by
  replace h := Option.bind_eq_some_iff.1 h
  obtain ⟨z, hz, h⟩ := h
  obtain ⟨i, v, hi, hv, hm⟩ := zeroT_info hz
  have hl := (mapM_some hm).1
  refine opAlloc_ok h hS hid hb v.cells (by simp [hl]) (fun j u hu => ?_) ?_
  · obtain ⟨h1, x, hx, hr⟩ := zero_cells hm F L j u hu
    exact ⟨h1, x, by simpa using hx, hr⟩
  · simp [execOp, hop, Instr.alloc, zeroValue, typeInfo, hi, hv, newVar, newRow]
theorem box_ok {id : Nat} {t : TypeId} {x : Operand} {r : Res} (hop : o.op = .box t x) (h : (evalU tm x).bind (fun u => opAlloc P id t u.cells) = some r) (hS : SR w F L b0 g) (hT : TR F L tm a.tmps) (hid : g id = none) (hb : b0 ≤ w.heap.size) : OpOk P a o w F L b0 g r := by
  replace h := Option.bind_eq_some_iff.1 h
  obtain ⟨u, hu, h⟩ := h
  have hr := eval_rep hT hu
  have hall : u.cells.all U.one = true := by
    unfold opAlloc at h
    split at h
    · split at h
      · rename_i hc
        exact hc.2.2
      · simp at h
    · simp at h
  obtain ⟨h1, h2⟩ := hr.cells' (cells_all hall).1 (cells_all hall).2
  refine opAlloc_ok h hS hid hb (a.eval x).cells (by omega) h2 ?_
  simp [execOp, hop, Instr.box, newVar, newRow]
theorem mkAgg_rep {cs : List U} {vs : List Value} (hl : vs.length = cs.length) (ho : ∀ (i : Nat) u, cs[i]? = some u → u.one = true) (hR : ∀ (i : Nat) u v, cs[i]? = some u → vs[i]? = some v → RepU F L u v) :
    RepU F L (mkAgg cs) (.agg vs.toArray) := by
  unfold mkAgg
  split
  · rename_i ds hds
    have hl' := (mapM_some hds).1
    have hd : ∀ (i : Nat) d, ds[i]? = some d → cs[i]? = some (.dat d) := by
      intro i d hd
      obtain ⟨u, hu, e⟩ := mapM_back hds hd
      cases u <;> simp [asDat] at e
      subst e
      exact hu
    refine .dat _ _ (.agg ds vs (by omega) (fun i y hy => ho i _ (hd i y hy)) (fun i y v hy hv => ?_))
    cases hR i _ v (hd i y hy) hv with
    | dat _ _ h => exact h
  · exact .agg cs vs hl ho hR
theorem SR.cells {ob : Obj} {i : Info} {x : Nat} (hS : SR w F L b0 g) (hg : g x = some ob) (hL : L x = some i) (he : 0 < ob.esz) (p n : Nat) (hn : p + n ≤ ob.cells.length) :
    ∃ vs : List Value, vs.length = n ∧ (∀ (j : Nat) v, vs[j]? = some v → w.cell? ⟨i.blk, p + j, none⟩ = some v) ∧
      (∀ (j : Nat) u v, ((ob.cells.drop p).take n)[j]? = some u → vs[j]? = some v → RepU F L u v) ∧ (∀ (j : Nat) u, ((ob.cells.drop p).take n)[j]? = some u → u.one = true) := by
  obtain ⟨i', arr, hL', r1, r2, r3, r4, hh, r5, hcs, hfr⟩ := hS.obj x ob hg
  rw [hL] at hL'
  obtain rfl := Option.some.inj hL'
  have hu : ∀ (j : Nat) u, ((ob.cells.drop p).take n)[j]? = some u → ob.cells[p + j]? = some u ∧ j < n := by
    intro j u hu
    rw [List.getElem?_take] at hu
    split at hu
    · rename_i hj
      rw [List.getElem?_drop] at hu
      exact ⟨hu, hj⟩
    · simp at hu
  refine ⟨(arr.toList.drop p).take n, by simp; omega, fun j v hv => ?_, fun j u v h1 h2 => ?_, fun j u h1 => (hcs _ u (hu j u h1).1).1 he⟩
  · rw [List.getElem?_take] at hv
    split at hv
    · rw [List.getElem?_drop] at hv
      rw [(hh.row he).cell]
      simpa using hv
    · simp at hv
  · obtain ⟨h3, h4⟩ := hu j u h1
    obtain ⟨_, x, hx, hr⟩ := hcs _ u h3
    rw [List.getElem?_take, if_pos h4, List.getElem?_drop] at h2
    have : x = v := by
      have h5 : arr[p + j]? = some v := by simpa using h2
      rw [hx] at h5
      exact Option.some.inj h5
    subst this
    exact hr
theorem ptr_now {ob : Obj} {x gn p : Nat} {v : Value} (hS : SR w F L b0 g) (hg : g x = some ob) (hgn : ob.gen = gn) (hr : RepU F L (.ptr x gn p) v) :
    ∃ i, L x = some i ∧ v = .pointer (some ⟨i.blk, p, none⟩) := by
  obtain ⟨i, arr, hL, r1, _⟩ := hS.obj x ob hg
  cases hr with
  | ptr _ _ i' hL' => exact ⟨i', hL', rfl⟩
  | ptrOld _ _ _ i' a hL' hlt =>
    rw [hL] at hL'
    obtain rfl := Option.some.inj hL'
    omega
theorem run_loadVar_agg {t : TypeId} {n : Nat} (hn : sizeT P t = some n) (ha : aggT P t = some true) (ad : Addr) (vs : List Value) (hl : vs.length = n) (hc : ∀ (j : Nat) v, vs[j]? = some v → w.cell? (ad.add j) = some v) :
    (loadVar t ad).run P w = .ok (.agg vs.toArray) w := by
  have h1 := run_isAgg ha w
  have h2 := run_sizeOf hn w
  have h3 := run_loadCells_list (P := P) w ad vs hc
  subst hl
  simp [loadVar, h1, h2, h3]
theorem run_loadVar_one {t : TypeId} (ha : aggT P t = some false) (ad : Addr) (v : Value) (hc : w.cell? ad = some v) :
    (loadVar t ad).run P w = .ok v w := by
  have h1 := run_isAgg ha w
  simp [loadVar, h1, hc]
theorem loadVar_ok {t : TypeId} {u : U} {v : Value} {r : Res} (h : opLoad P g t u = some r) (hS : SR w F L b0 g) (hr : RepU F L u v) :
    r.up = [] ∧ ∃ ad x, v = .pointer (some ad) ∧ (loadVar t ad).run P w = .ok x w ∧ RepU F L r.u x := by
  cases u with
  | ptr x gn p =>
    simp only [opLoad] at h
    split at h
    · rename_i ob n ag hg hn ha
      split at h
      · rename_i hcond
        obtain ⟨hgn, he0, hlen⟩ := hcond
        obtain ⟨i, hL, rfl⟩ := ptr_now hS hg hgn hr
        split at h
        · rename_i hag
          obtain rfl := Option.some.inj h
          subst hag
          obtain ⟨vs, hl, hc, hR, ho⟩ := hS.cells hg hL he0 p n hlen
          refine ⟨rfl, _, _, rfl, run_loadVar_agg hn ha _ vs hl (fun j v hv => by rw [add_none]; exact hc j v hv), ?_⟩
          exact mkAgg_rep (by simp; omega) ho hR
        · rename_i hag
          obtain ⟨u', hu', rfl⟩ := Option.map_eq_some_iff.1 h
          obtain ⟨i', arr, hL', r1, r2, r3, r4, hh, r5, hcs, hfr⟩ := hS.obj x ob hg
          rw [hL] at hL'
          obtain rfl := Option.some.inj hL'
          obtain ⟨_, y, hy, hry⟩ := hcs p u' hu'
          exact ⟨rfl, _, y, rfl, run_loadVar_one (by simpa using (by cases ag <;> simp_all : aggT P t = some false)) _ y (by rw [(hh.row he0).cell, hy]), hry⟩
      · simp at h
    · simp at h
  | dat d =>
    cases d with
    | fp cs =>
      simp only [opLoad] at h
      split at h
      · rename_i n ag hn ha
        split at h
        · rename_i hlen
          cases hr with
          | dat _ _ hr =>
            cases hr with
            | fp _ ad val hs ho hF hR =>
              split at h
              · rename_i hag
                obtain rfl := Option.some.inj h
                subst hag
                have hl : ((List.range n).map val).length = n := by simp
                refine ⟨rfl, ad, _, rfl, run_loadVar_agg hn ha ad ((List.range n).map val) hl (fun j v hv => ?_), .dat _ _ (.agg _ _ (by simp; omega) (fun j y hy => ?_) (fun j y v hy hv => ?_))⟩
                · have hj : j < n := by have := (List.getElem?_eq_some_iff.1 hv).1; simpa using this
                  simp [hj] at hv
                  subst hv
                  exact hS.mem _ _ (hF j cs[j] (List.getElem?_eq_getElem (by omega)))
                · rw [List.getElem?_take] at hy
                  split at hy
                  · exact ho j y hy
                  · simp at hy
                · rw [List.getElem?_take] at hy
                  split at hy
                  · rename_i hj
                    simp [hj] at hv
                    subst hv
                    exact hR j y hy
                  · simp at hy
              · rename_i hag
                obtain ⟨d, hd, rfl⟩ := Option.map_eq_some_iff.1 h
                have h0 := hF 0 d hd
                have e0 : ad.add 0 = ad := by simp [Addr.add]
                rw [e0] at h0
                exact ⟨rfl, ad, val 0, rfl, run_loadVar_one (by cases ag <;> simp_all) ad _ (hS.mem _ _ h0), .dat _ _ (hR 0 d hd)⟩
        · simp at h
      · simp at h
    | _ => simp [opLoad] at h
  | _ => simp [opLoad] at h
theorem load_ok {t : TypeId} {x : Operand} {r : Res} (hop : o.op = .load t x) (h : (evalU tm x).bind (opLoad P g t) = some r) (hS : SR w F L b0 g) (hT : TR F L tm a.tmps) : OpOk P a o w F L b0 g r := by
  replace h := Option.bind_eq_some_iff.1 h
  obtain ⟨u, hu, h⟩ := h
  obtain ⟨hup, ad, v, hv, hrun, hr⟩ := loadVar_ok h hS (eval_rep hT hu)
  refine .quiet hS hup ?_ hr
  simp [execOp, hop, Instr.loadAt, Instr.sureAddr, hv, hrun]
theorem splice_get {l : List U} {p : Nat} {new : List U} (hp : p + new.length ≤ l.length) {j : Nat} {u : U} (h : (splice l p new)[j]? = some u) :
    (j < p ∧ l[j]? = some u) ∨ (p ≤ j ∧ j < p + new.length ∧ new[j - p]? = some u) ∨ (p + new.length ≤ j ∧ l[j]? = some u) := by
  have _s : Sig := inferInstance
  unfold splice at h
  have h1 : (l.take p).length = p := by simp; omega
  by_cases hj : j < p
  · left
    rw [List.getElem?_append_left (by simp; omega), List.getElem?_append_left (by omega), List.getElem?_take_of_lt hj] at h
    exact ⟨hj, h⟩
  · by_cases hj2 : j < p + new.length
    · right; left
      rw [List.getElem?_append_left (by simp; omega), List.getElem?_append_right (by omega), h1] at h
      exact ⟨by omega, hj2, h⟩
    · right; right
      rw [List.getElem?_append_right (by simp; omega)] at h
      simp only [List.length_append, h1, List.getElem?_drop] at h
      refine ⟨by omega, ?_⟩
      rw [← h]
      congr 1
      omega
theorem splice_length {l : List U} {p : Nat} {new : List U} (hp : p + new.length ≤ l.length) : (splice l p new).length = l.length := by
  have _s : Sig := inferInstance
  unfold splice
  simp
  omega
theorem RowAt.setRow {w : World} {b : Nat} {arr arr' : Array Value} {ty : TypeId} (h : RowAt w b arr ty) (e : arr'.size = arr.size) : RowAt (w.setRow b arr') b arr' ty := by
  have _s : Sig := inferInstance
  obtain ⟨fr, hf, hh⟩ := h
  exact ⟨fr, by rw [e]; exact hf, setRow_heap w b arr arr' ty fr hh⟩
theorem setCells_row {b : Nat} {ty : TypeId} : ∀ (vs : List Value) (o : Nat) (arr : Array Value) (w : World), RowAt w b arr ty → o + vs.length ≤ arr.size →
    w.setCells b o vs = w.setRow b (arr.toList.take o ++ vs ++ arr.toList.drop (o + vs.length)).toArray := by
  have _s : Sig := inferInstance
  intro vs
  induction vs with
  | nil =>
    intro o arr w h _
    obtain ⟨fr, _, hh⟩ := h
    simp only [World.setCells, List.append_nil, List.length_nil, Nat.add_zero, List.take_append_drop, Array.toArray_toList]
    exact (setRow_self w b arr ty fr hh).symm
  | cons v r ih =>
    intro o arr w h hl
    obtain ⟨fr, hf, hh⟩ := id h
    simp only [World.setCells, List.length_cons] at hl ⊢
    have h2 : RowAt (w.setRow b (arr.setIfInBounds o v)) b (arr.setIfInBounds o v) ty := h.setRow (by simp)
    rw [setCell_eq_setRow w b o arr ty fr v hh, ih (o + 1) _ _ h2 (by simp; omega), setRow_setRow]
    congr 2
    have e := list_seg_step arr.toList o v r (by simp; omega)
    simpa [Array.toList_setIfInBounds, Nat.add_assoc] using e
theorem storeCells_row {P : Program} {b o : Nat} {ty : TypeId} {arr : Array Value} {w : World} (vs : List Value) (h : RowAt w b arr ty) (hl : o + vs.length ≤ arr.size) (h1 : ∀ v ∈ vs, v.oneCell' = true) :
    (storeCells ⟨b, o, none⟩ vs 0).run P w = .ok () (w.setRow b (arr.toList.take (o + 0) ++ vs ++ arr.toList.drop (o + 0 + vs.length)).toArray) := by
  have _s : Sig := inferInstance
  rw [run_storeCells_cells b o vs 0 w (fun j hj => by rw [h.cell]; simp; omega) (fun j hj => h.free (by omega)) h1, setCells_row vs (o + 0) arr w h (by omega)]
theorem SR.write {ob : Obj} {i : Info} {x : Nat} (hS : SR w F L b0 g) (hg : g x = some ob) (hL : L x = some i) (he : 0 < ob.esz) (hsn : ob.snap = false) (p : Nat) (new : List U) (vs : List Value) (hl : vs.length = new.length) (hp : p + new.length ≤ ob.cells.length)
    (hR : ∀ (j : Nat) u, new[j]? = some u → u.one = true ∧ ∃ v, vs[j]? = some v ∧ RepU F L u v) :
    ∃ w' L', (storeCells ⟨i.blk, p, none⟩ vs).run P w = .ok () w' ∧ Evo w F L w' F L' ∧ SR w' F L' b0 (fun y => if y = x then some { ob with cells := splice ob.cells p new } else g y) := by
  obtain ⟨i', arr, hL', r1, r2, r3, r4, hh, r5, hcs, hfr⟩ := hS.obj x ob hg
  rw [hL] at hL'
  obtain rfl := Option.some.inj hL'
  have h1 : ∀ v ∈ vs, v.oneCell' = true := by
    intro v hv
    obtain ⟨j, hj⟩ := List.getElem?_of_mem hv
    have hlt : j < new.length := by rw [← hl]; exact (List.getElem?_eq_some_iff.1 hj).1
    obtain ⟨ho, y, hy, hr⟩ := hR j new[j] (List.getElem?_eq_getElem hlt)
    rw [hj] at hy
    obtain rfl := Option.some.inj hy
    exact hr.oneCell ho
  have hh := hh.row he
  have hrun := storeCells_row (P := P) (o := p) vs hh (by omega) h1
  have hlt := hh.lt
  obtain ⟨hS', hE⟩ := hS.upd (w' := w.setRow i.blk (arr.toList.take (p + 0) ++ vs ++ arr.toList.drop (p + 0 + vs.length)).toArray) x { ob with cells := splice ob.cells p new } i
    (arr.toList.take (p + 0) ++ vs ++ arr.toList.drop (p + 0 + vs.length)).toArray (by simp [World.setRow]) rfl rfl rfl
    (fun k _ hk => by simp only [World.setRow]; rw [Array.getElem?_modify]; simp [Ne.symm hk])
    (.inl ⟨he, hh.setRow (by simp; omega)⟩) (fun h => absurd h (by show ¬ ob.esz = 0; omega)) (fun _ => by rw [r3 he]; simp; omega) r1 r2 r4 (by rw [splice_length hp]; simp; omega)
    (fun off v hv => by rw [hfr off (fun h => by rw [hsn] at h; simp at h)] at hv; simp at hv)
    (fun off _ => hfr off (fun h => by rw [hsn] at h; simp at h))
    (.inl ⟨i, hL, rfl, .inl rfl⟩)
    (fun j u hu => by
      have hal : arr.toList.length = arr.size := by simp
      rcases splice_get hp hu with ⟨hj, hu'⟩ | ⟨h1, h2, hu'⟩ | ⟨hj, hu'⟩
      · obtain ⟨ho, v, hv, hr⟩ := hcs j u hu'
        refine ⟨ho, v, ?_, .inl hr⟩
        simp only [List.getElem?_toArray, Nat.add_zero]
        rw [List.getElem?_append_left (by simp; omega), List.getElem?_append_left (by simp; omega), List.getElem?_take_of_lt hj]
        simpa using hv
      · obtain ⟨ho, v, hv, hr⟩ := hR _ u hu'
        refine ⟨fun _ => ho, v, ?_, .inl hr⟩
        simp only [List.getElem?_toArray, Nat.add_zero]
        rw [List.getElem?_append_left (by simp; omega), List.getElem?_append_right (by simp; omega)]
        have : (arr.toList.take p).length = p := by simp; omega
        rw [this]
        exact hv
      · obtain ⟨ho, v, hv, hr⟩ := hcs j u hu'
        refine ⟨ho, v, ?_, .inl hr⟩
        simp only [List.getElem?_toArray, Nat.add_zero]
        rw [List.getElem?_append_right (by simp; omega)]
        have e1 : (arr.toList.take p ++ vs).length = p + vs.length := by simp; omega
        rw [e1, List.getElem?_drop]
        have e2 : p + vs.length + (j - (p + vs.length)) = j := by omega
        rw [e2]
        simpa using hv)
  exact ⟨_, _, hrun, hE, hS'⟩
theorem store_ok {t : TypeId} {x y : Operand} {r : Res} (hop : o.op = .store t x y) (h : (evalU tm x).bind (fun u => (evalU tm y).bind (opStore P g t u)) = some r) (hS : SR w F L b0 g) (hT : TR F L tm a.tmps) : OpOk P a o w F L b0 g r := by
  replace h := Option.bind_eq_some_iff.1 h
  obtain ⟨u, hu, h⟩ := h
  replace h := Option.bind_eq_some_iff.1 h
  obtain ⟨z, hz, h⟩ := h
  have hru := eval_rep hT hu
  have hrz := eval_rep hT hz
  cases u with
  | ptr x' gn p =>
    simp only [opStore] at h
    split at h
    · rename_i ob n hg hsz
      split at h
      · rename_i hcond
        obtain ⟨hgn, he0, hsn, hlen, hp, hall⟩ := hcond
        obtain rfl := Option.some.inj h
        obtain ⟨i, hL, hv⟩ := ptr_now hS hg hgn hru
        obtain ⟨h1, h2⟩ := hrz.cells' (cells_all hall).1 (cells_all hall).2
        obtain ⟨w', L', hrun, hE, hS'⟩ := hS.write (P := P) hg hL he0 hsn p z.cells (a.eval y).cells.toList (by simp [h1]) (by omega) (fun j u hu => by
          obtain ⟨ho, v, hv, hr⟩ := h2 j u hu
          exact ⟨ho, v, by simpa using hv, hr⟩)
        refine ⟨Go.undef, w', F, L', .inr ⟨?_, rfl⟩, hE, hS', .undef⟩
        have hs := run_sizeOf hsz w
        simp [execOp, hop, Instr.storeAt, Instr.sureAddr, hv, storeVar, hs, h1, hlen, hrun]
      · simp at h
    · simp at h
  | _ => simp [opStore] at h
end
end Go.Proofs.Ytjofhegodknmaaa.V
