/- V, 8: make, copy, conversions, and all operations together. -/
import Derived.Test.YtjkolcpnihmgiaaV7
set_option linter.unusedSimpArgs false
set_option linter.unusedVariables false
namespace Go.Proofs.Ytjkolcpnihmgiaa.V
open Go

section
variable {P : Program} {a : Act} {o : Oper} {w : World} {F : Mem} {L : Lay} {b0 : Nat} {g : Nat → Option Obj} {tm : List U}

theorem makeSlice_ok {id : Nat} {t : TypeId} {x y : Operand} {r : Res} (hop : o.op = .makeSlice t x y) (h : (evalU tm x).bind (fun u => (evalU tm y).bind (opMakeSlice P id t u)) = some r) (hS : SR w F L b0 g) (hT : TR F L tm a.tmps) (hid : g id = none) (hb : b0 ≤ w.heap.size) :
    OpOk P a o w F L b0 g r := by
  replace h := Option.bind_eq_some_iff.1 h
  obtain ⟨u, hu, h⟩ := h
  replace h := Option.bind_eq_some_iff.1 h
  obtain ⟨v, hv, h⟩ := h
  have hr := eval_rep hT hu
  have hrv := eval_rep hT hv
  unfold opMakeSlice at h
  split at h
  · rename_i e n m hus
    split at h
    · rename_i i ag z hi ha hz
      split at h
      · rename_i hcond
        obtain ⟨h0, hnm, hlim, hsz, hby, hzl⟩ := hcond
        obtain rfl := Option.some.inj h
        obtain ⟨i', zv, hi', hzv, hzm⟩ := zeroT_info hz
        rw [hi] at hi'
        obtain rfl := Option.some.inj hi'
        have e1 := ix_inv hr
        have e2 := ix_inv hrv
        obtain ⟨N, rfl⟩ : ∃ N : Nat, n = (N : Int) := ⟨n.toNat, by omega⟩
        obtain ⟨M, rfl⟩ : ∃ M : Nat, m = (M : Int) := ⟨m.toNat, by omega⟩
        have hMi : M * i.bytes ≤ 140737488355328 := by
          rw [← Int.natCast_mul] at hlim
          omega
        have hM : M ≤ 140737488355328 := Nat.le_trans (Nat.le_mul_of_pos_right M hby) hMi
        have hNM : N ≤ M := by omega
        have hrun : (Instr.makeSlice t (.int .i64 N) (.int .i64 M)).run P w = .ok (.slice (some ⟨w.heap.size, 0, none⟩) N M) (w.alloc (.cells ((Array.range (M * i.size)).map (zv.cells[· % zv.cells.size]!)) e)) := by
          have w1 : IntKind.i64.wrap (N : Int) = N := IntWalk.i64_in _ (by omega)
          have w2 : IntKind.i64.wrap (M : Int) = M := IntWalk.i64_in _ (by omega)
          have hs : (sizeOf e).run P w = .ok i.size w := by simp [sizeOf, typeInfo, hi]
          have ht : (typeInfo e).run P w = .ok i w := by simp [typeInfo, hi]
          have hz' : (zeroValue e).run P w = .ok zv w := by simp [zeroValue, typeInfo, hi, hzv]
          have hbM : (i.bytes : Int) * (M : Int) ≤ 140737488355328 := by rw [Int.mul_comm]; exact hlim
          unfold Instr.makeSlice
          simp only [Sem.run_bind, run_underlying hus, Result.andThen_ok, asInt, asIntOf, Sem.run_pure, ht, w1, w2]
          rw [if_neg (by
            have : (2 : Int) ^ 48 = 281474976710656 := rfl
            simp only [Bool.or_eq_true, decide_eq_true_eq, this]
            omega)]
          simp only [Sem.run_bind, run_askRoom, Result.andThen_ok, hs, Int.toNat_natCast]
          by_cases hm0 : M * i.size = 0
          · rw [if_pos hm0]
            have e0 : ∀ f : Nat → Value, (Array.range (M * i.size)).map f = #[] := by
              intro f
              rw [hm0]
              simp
            simp only [pure_bind, e0]
            rfl
          · rw [if_neg hm0]
            simp only [Sem.run_bind, hz', Result.andThen_ok, Sem.run_pure]
            rfl
        obtain ⟨inf, hL, g1, g2, g3, g4, hS', hE⟩ := hS.alloc id ⟨e, i.size, ag, 0, false, repeatD z N⟩ ((Array.range (M * i.size)).map (zv.cells[· % zv.cells.size]!)) hb hid rfl
          (by simp [repeatD_length, hzl]; exact Nat.mul_le_mul_right _ hNM) (zeros_ok hzm (by omega) N (M * i.size) (by rw [hzl]; exact Nat.mul_le_mul_right _ hNM) F L)
        refine ⟨.slice (some ⟨w.heap.size, 0, none⟩) N M, _, F, _, .inl ?_, hE, ?_, ?_⟩
        · simp only [execOp, hop, Sem.run_bind, e1, e2]
          rw [hrun]
          rfl
        · exact hS'
        · have := RepU.own (F := F) id 0 N M inf hL hNM (by rw [g3, g4]; simp)
          rw [g1, g2] at this
          simpa using this
      · simp at h
    · simp at h
  · simp at h

theorem bytesOfD_some : ∀ {l : List D} {b : List UInt8}, bytesOfD l = some b → b.length = l.length ∧ ∀ (j : Nat) y, l[j]? = some y → ∃ n : Int, y = .int .u8 n ∧ b[j]? = some (UInt8.ofNat n.toNat) := by
  intro l
  induction l with
  | nil => intro b h; simp [bytesOfD] at h; subst h; exact ⟨rfl, fun j y h => by simp at h⟩
  | cons d l ih =>
    intro b h
    obtain ⟨n, rfl, b', hb', rfl⟩ : ∃ n, d = .int .u8 n ∧ ∃ b', bytesOfD l = some b' ∧ UInt8.ofNat n.toNat :: b' = b := by
      unfold bytesOfD at h
      split at h
      · rename_i e; simp at e
      · rename_i n r e
        obtain ⟨rfl, rfl⟩ := List.cons.inj e
        obtain ⟨b', hb', e'⟩ := Option.map_eq_some_iff.1 h
        exact ⟨n, rfl, b', hb', e'⟩
      · simp at h
    obtain ⟨h1, h2⟩ := ih hb'
    refine ⟨by simp [h1], fun j y hy => ?_⟩
    cases j with
    | zero => simp at hy; subst hy; exact ⟨n, rfl, rfl⟩
    | succ j => simp at hy; simpa using h2 j y hy
theorem push_all : ∀ (ns : List Int) (s : ByteArray), ns.foldl (fun r n => r.push (UInt8.ofNat n.toNat)) s = ⟨s.data ++ (ns.map fun n => UInt8.ofNat n.toNat).toArray⟩ := by
  intro ns
  induction ns with
  | nil => intro s; simp
  | cons n ns ih =>
    intro s
    rw [List.foldl_cons, ih]
    congr 1
    apply Array.ext'
    simp [ByteArray.push]
/-- bytes in memory, as a string -/
theorem toStr_ok {ad : Addr} {n c : Nat} {l : List D} {b : List UInt8} (hb : bytesOfD l = some b) (hn : l.length = n) (val : Nat → Value) (hc : ∀ (j : Nat) y, l[j]? = some y → w.cell? (ad.add j) = some (val j) ∧ Rep F y (val j)) :
    (Conv.bytesToString (.slice (some ad) n c)).run P w = .ok (.string ⟨b.toArray⟩) w := by
  obtain ⟨hl, hg⟩ := bytesOfD_some hb
  have hex : ∀ j : Nat, ∃ m : Int, j < n → val j = .int .u8 m ∧ b[j]? = some (UInt8.ofNat m.toNat) := by
    intro j
    by_cases hj : j < n
    · obtain ⟨m, hm, hbm⟩ := hg j l[j] (List.getElem?_eq_getElem (by omega))
      refine ⟨m, fun _ => ⟨?_, hbm⟩⟩
      have := (hc j l[j] (List.getElem?_eq_getElem (by omega))).2
      rw [hm] at this
      generalize val j = v at this
      cases this
      rfl
    · exact ⟨0, fun h => absurd h hj⟩
  have hns : (((List.range n).map fun j => (hex j).choose).map (Value.int .u8)).length = n := by simp
  have hload := run_loadCells_list (P := P) w ad (((List.range n).map fun j => (hex j).choose).map (Value.int .u8)) (fun j v hv => by
    have hj : j < n := by have := (List.getElem?_eq_some_iff.1 hv).1; rw [hns] at this; exact this
    have h2 := (hex j).choose_spec hj
    rw [List.getElem?_map, List.getElem?_map, List.getElem?_range hj] at hv
    simp at hv
    subst hv
    rw [← h2.1]
    exact (hc j l[j] (List.getElem?_eq_getElem (by omega))).1)
  rw [hns] at hload
  rw [run_bytesToString w ad n c _ hload, push_all]
  congr 3
  apply Array.ext'
  simp
  apply List.ext_getElem?
  intro j
  by_cases hj : j < n
  · have h2 := (hex j).choose_spec hj
    rw [h2.2]
    simp [hj]
  · rw [List.getElem?_eq_none (by simp; omega), List.getElem?_eq_none (by omega)]

theorem convert_ok {s d : TypeId} {x : Operand} {r : Res} (hop : o.op = .convert s d x) (h : (evalU tm x).bind (opConvert P g s d) = some r) (hS : SR w F L b0 g) (hT : TR F L tm a.tmps) : OpOk P a o w F L b0 g r := by
  replace h := Option.bind_eq_some_iff.1 h
  obtain ⟨u, hu, h⟩ := h
  have hr := eval_rep hT hu
  unfold opConvert at h
  split at h
  · rename_i e hs hd
    split at h
    · rename_i he
      have hrun : ∀ (ao : Option Addr) (n c : Nat) (b : ByteArray), a.eval x = .slice ao n c → (Conv.bytesToString (.slice ao n c)).run P w = .ok (.string b) w → (execOp a.eval o).run P w = .ok (.value (.string b)) w := by
        intro ao n c b hv hb
        cases ao <;> simp [execOp, hop, convert, run_underlying hs, run_underlying hd, run_underlying he, hv, hb]
      split at h
      · obtain rfl := Option.some.inj h
        exact .quiet hS rfl (hrun none 0 0 _ (nil_inv (dat_inv hr)) (by simp [Conv.bytesToString])) (.dat _ _ (.str _))
      · rename_i l
        obtain ⟨b, hb, rfl⟩ := Option.map_eq_some_iff.1 h
        have hrl := dat_inv hr
        generalize hv : a.eval x = v at hrl
        cases hrl with
        | lst _ ad c sz val hc hsz ho hF hR =>
          refine .quiet hS rfl (hrun _ _ _ _ hv (toStr_ok (F := F) hb rfl (fun j => val j 0) (fun j y hy => ?_))) (.dat _ _ (.str _))
          obtain ⟨m, rfl, _⟩ := (bytesOfD_some hb).2 j y hy
          have h1 : sz = 1 := by have := hsz _ (List.mem_of_getElem? hy); simpa [D.cells] using this.symm
          subst h1
          have h2 := hF j _ 0 (.int .u8 m) hy rfl
          rw [Nat.mul_one, Nat.add_zero] at h2
          exact ⟨hS.mem _ _ h2, hR j _ 0 _ hy rfl⟩
      · rename_i x' gn off n
        split at h
        · rename_i ob hg
          split at h
          · rename_i hcond
            obtain ⟨hgn, hes, hlen⟩ := hcond
            obtain ⟨b, hb, rfl⟩ := Option.map_eq_some_iff.1 h
            obtain ⟨ds, hds, hb⟩ := Option.bind_eq_some_iff.1 hb
            obtain ⟨inf, ad, c, hL, hig, hie, hv, hnc, had⟩ := own_now hS hg hgn hr
            obtain ⟨vs, hvl, hc, hR, ho⟩ := hS.cells hg hL off n hlen
            have hdl : ds.length = n := by rw [(mapM_some hds).1]; simp; omega
            refine .quiet hS rfl (hrun _ _ _ _ hv (toStr_ok (F := F) hb hdl (fun j => vs.getD j Go.undef) (fun j y hy => ?_))) (.dat _ _ (.str _))
            obtain ⟨u', hu', hd'⟩ := mapM_back hds hy
            have hu2 : u' = .dat y := by cases u' <;> simp [asDat] at hd'; rw [hd']
            subst hu2
            have hj : j < n := by rw [← hdl]; exact (List.getElem?_eq_some_iff.1 hy).1
            have hvj : vs[j]? = some vs[j] := List.getElem?_eq_getElem (by omega)
            obtain ⟨rfl, _⟩ := had (by omega)
            have hgd : vs.getD j Go.undef = vs[j] := by simp [List.getD_eq_getElem?_getD, hvj]
            rw [hgd, add_none, hie, hes, Nat.mul_one]
            exact ⟨hc j _ hvj, dat_inv (hR j _ _ hu' hvj)⟩
          · simp at h
        · simp at h
      · simp at h
    · simp at h
  · simp at h

theorem clear_ok {t : TypeId} {c : Call} {x : Operand} {r : Res} (hop : o.op = .call c) (hcal : c.callee = .builtin .clear) (hargs : c.args.toList = [x]) (htys : c.argTypes.toList = [t])
    (h : (evalU tm x).bind (opClear P g t) = some r) (hS : SR w F L b0 g) (hT : TR F L tm a.tmps) : OpOk P a o w F L b0 g r := by
  replace h := Option.bind_eq_some_iff.1 h
  obtain ⟨u, hu, h⟩ := h
  have hr := eval_rep hT hu
  have hca : c.args = #[x] := by rw [← Array.toArray_toList (xs := c.args), hargs]
  have hct : c.argTypes = #[t] := by rw [← Array.toArray_toList (xs := c.argTypes), htys]
  unfold opClear at h
  split at h
  · rename_i e x' gn off n hus
    split at h
    · rename_i ob sz z hg hsz hz
      split at h
      · rename_i hcond
        obtain ⟨hgn, hes, h0, hsn, hzl, hlen⟩ := hcond
        obtain rfl := Option.some.inj h
        obtain ⟨inf, ad, cp, hL, hig, hie, hv, hnc, had⟩ := own_now hS hg hgn hr
        obtain ⟨i, zv, hi, hzv, hzm⟩ := zeroT_info hz
        by_cases hn : n = 0
        · subst hn
          have hsame : (fun y => if y = x' then some { ob with cells := splice ob.cells (off * sz) (repeatD z 0) } else g y) = g := by
            funext y
            by_cases hy : y = x'
            · subst hy
              have : splice ob.cells (off * sz) (repeatD z 0) = ob.cells := by simp [splice, repeatD]
              simp only [if_true, this]
              exact hg.symm
            · simp [hy]
          refine ⟨Go.undef, w, F, L, .inl ?_, .refl _ _ _, ?_, .undef⟩
          · simp [execOp, hop, resolve, hcal, hca, hct, invoke, builtin, Builtin.clear_, run_underlying hus, hv, Go.undef]
          · show SR w F L b0 (fun y => if y = x' then some { ob with cells := splice ob.cells (off * sz) (repeatD z 0) } else g y)
            rw [hsame]
            exact hS
        · obtain ⟨rfl, hcap⟩ := had (by omega)
          have hzsz : zv.cells.size = sz := by rw [← hzl, (mapM_some hzm).1]; simp
          have hrl := repeatD_length z n
          have hlen' : off * sz + n * sz ≤ ob.cells.length := by rw [← Nat.add_mul]; exact hlen
          obtain ⟨w', L', hrun, hE, hS'⟩ := hS.write (P := P) hg hL hsn (off * sz) (repeatD z n) (Builtin.zeroCells zv.cells n).toList (by simp [zeroCells_size, hzsz, hrl, hzl]) (by rw [hrl, hzl]; exact hlen') (fun j u hu => by
            obtain ⟨ho, v, hv', hrv⟩ := zeros_ok hzm (by omega) n (n * zv.cells.size) (by rw [hzsz, hzl]; exact Nat.le_refl _) F L j u hu
            exact ⟨ho, v, by unfold Builtin.zeroCells; rw [Array.getElem?_toList]; exact hv', hrv⟩)
          refine ⟨Go.undef, w', F, L', .inl ?_, hE, hS', .undef⟩
          have hz' : (zeroValue e).run P w = .ok zv w := by simp [zeroValue, typeInfo, hi, hzv]
          obtain ⟨k, rfl⟩ : ∃ k, n = k + 1 := ⟨n - 1, by omega⟩
          rw [hie, hes] at hv
          simp [execOp, hop, resolve, hcal, hca, hct, invoke, builtin, Builtin.clear_, run_underlying hus, hv, Go.undef, hz', hrun]
      · simp at h
    · simp at h
  · simp at h

theorem bool_inv {b : Bool} {v : Value} (h : Rep F (.bool b) v) : v = .bool b := by cases h; rfl

theorem opStep_ok {id : Nat} {r : Res} (h : opStep P g id tm o = some r) (hS : SR w F L b0 g) (hT : TR F L tm a.tmps) (hid : g id = none) (hb : b0 ≤ w.heap.size) : OpOk P a o w F L b0 g r := by
  unfold opStep at h
  split at h
  · rename_i x hop
    obtain ⟨u, hu, rfl⟩ := Option.map_eq_some_iff.1 h
    exact .quiet hS rfl (v := a.eval x) (by simp [execOp, hop]) (eval_rep hT hu)
  · rename_i x hop
    obtain ⟨u, hu, rfl⟩ := Option.map_eq_some_iff.1 h
    exact .quiet hS rfl (v := a.eval x) (by simp [execOp, hop]) (eval_rep hT hu)
  · rename_i c x y hop
    split at h
    · rename_i hc
      obtain ⟨u, hu, rfl⟩ := Option.map_eq_some_iff.1 h
      have hcv : a.eval c = .bool true := bool_inv (dat_inv (eval_rep hT hc))
      exact .quiet hS rfl (v := a.eval x) (by simp [execOp, hop, hcv, asBool]) (eval_rep hT hu)
    · rename_i hc
      obtain ⟨u, hu, rfl⟩ := Option.map_eq_some_iff.1 h
      have hcv : a.eval c = .bool false := bool_inv (dat_inv (eval_rep hT hc))
      exact .quiet hS rfl (v := a.eval y) (by simp [execOp, hop, hcv, asBool]) (eval_rep hT hu)
    · simp at h
  · rename_i t hop
    exact alloc_ok hop h hS hid hb
  · rename_i t x hop
    exact box_ok hop h hS hT hid hb
  · rename_i t ps hop
    exact build_ok hop h hS hT
  · rename_i t n ps hop
    exact buildSlice_ok hop h hS hT hid hb
  · rename_i t x hop
    exact load_ok hop h hS hT
  · rename_i t x y hop
    exact store_ok hop h hS hT
  · rename_i x hop
    split at h
    · rename_i x' gn p hx
      obtain rfl := Option.some.inj h
      have hr := eval_rep hT hx
      obtain ⟨ad, hv⟩ := ptr_inv hr
      exact .quiet hS rfl (v := a.eval x) (by simp [execOp, hop, hv]) hr
    · rename_i cs hx
      obtain rfl := Option.some.inj h
      have hr := eval_rep hT hx
      obtain ⟨ad, hv⟩ := fp_inv (dat_inv hr)
      exact .quiet hS rfl (v := a.eval x) (by simp [execOp, hop, hv]) hr
    · rename_i f cs hx
      obtain rfl := Option.some.inj h
      have hr := eval_rep hT hx
      have hv : ∃ vs, a.eval x = .func (.func f) #[] vs := by
        generalize a.eval x = v at hr
        cases dat_inv hr with
        | fn _ _ vs _ _ => exact ⟨_, rfl⟩
      obtain ⟨vs, hv⟩ := hv
      exact .quiet hS rfl (v := a.eval x) (by simp [execOp, hop, hv]) hr
    · rename_i f cs hx
      obtain rfl := Option.some.inj h
      have hr := eval_rep hT hx
      have hv : ∃ vs, a.eval x = .func (.func f) #[] vs := by
        generalize a.eval x = v at hr
        cases hr with
        | fn _ _ vs _ _ => exact ⟨_, rfl⟩
      obtain ⟨vs, hv⟩ := hv
      exact .quiet hS rfl (v := a.eval x) (by simp [execOp, hop, hv]) hr
    · simp at h
  · rename_i s x f hop
    exact fieldAddr_ok hop h hS hT
  · rename_i t x f hop
    exact field_ok hop h hS hT
  · rename_i t x y hop
    exact indexAddr_ok hop h hS hT
  · rename_i t x y hop
    split at h
    · rename_i r' hp
      obtain rfl := Option.some.inj h
      exact opPure_ok hp hS hT
    · exact index_ok hop h hS hT
  · rename_i t x lo hi mx hop
    split at h
    · rename_i r' hp
      obtain rfl := Option.some.inj h
      exact opPure_ok hp hS hT
    · exact slice_ok hop h hS hT
  · rename_i x i hop
    split at h
    · rename_i l hx
      obtain ⟨u, hu, rfl⟩ := Option.map_eq_some_iff.1 h
      have hr := eval_rep hT hx
      generalize hv : a.eval x = v at hr
      cases hr with
      | tup _ vs hl hR =>
        have hlt : i < vs.length := by rw [hl]; exact (List.getElem?_eq_some_iff.1 hu).1
        exact .quiet hS rfl (v := vs[i]) (by simp [execOp, hop, hv, Instr.extract, hlt]) (hR i u _ hu (List.getElem?_eq_getElem hlt))
    · simp at h
  · rename_i f first caps hop
    split at h
    · rename_i hf
      obtain ⟨l, hl, rfl⟩ := Option.map_eq_some_iff.1 h
      have hf' : first = #[] := by simpa using hf
      subst hf'
      refine .quiet hS rfl (v := .func (.func f) #[] (caps.toList.map a.eval).toArray) ?_ (.fn f l _ (by rw [List.length_map]; exact (mapM_some hl).1.symm) (fun i u v hu hv => ?_))
      · have : (caps.toList.map a.eval).toArray = caps.map a.eval := by rw [← Array.toList_map]
        rw [this]
        simp [execOp, hop, Instr.makeFunc]
      · obtain ⟨x, hx, he⟩ := mapM_back hl hu
        rw [List.getElem?_map, hx] at hv
        simp at hv
        subst hv
        exact eval_rep hT he
    · simp at h
  · rename_i t x y hop
    exact makeSlice_ok hop h hS hT hid hb
  · rename_i t x y t2 hop
    split at h
    · rename_i r' hp
      obtain rfl := Option.some.inj h
      exact opPure_ok hp hS hT
    · exact eql_ok (neg := false) hop h hS hT
  · rename_i t x y t2 hop
    split at h
    · rename_i r' hp
      obtain rfl := Option.some.inj h
      exact opPure_ok hp hS hT
    · exact eql_ok (neg := true) hop h hS hT
  · rename_i s d x hop
    split at h
    · rename_i r' hp
      obtain rfl := Option.some.inj h
      exact opPure_ok hp hS hT
    · exact convert_ok hop h hS hT
  · rename_i c hop
    split at h
    · rename_i s x t tx hcal hargs htys
      exact append_ok hop hcal hargs htys h hS hT hid hb
    · rename_i x t hcal hargs htys
      split at h
      · rename_i r' hp
        obtain rfl := Option.some.inj h
        exact opPure_ok hp hS hT
      · exact len_ok hop hcal hargs htys h hS hT
    · rename_i d t hcal hargs htys
      exact clear_ok hop hcal hargs htys h hS hT
    · exact opPure_ok h hS hT
  · exact opPure_ok h hS hT
end
end Go.Proofs.Ytjkolcpnihmgiaa.V
