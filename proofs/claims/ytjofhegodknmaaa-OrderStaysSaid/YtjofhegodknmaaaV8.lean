/- V, 8: make, copy, conversions, and all operations together. -/
import Derived.Test.YtjofhegodknmaaaVM
import Derived.Laws.IdiomStrings
set_option linter.unusedSimpArgs false
set_option linter.unusedVariables false
namespace Go.Proofs.Ytjofhegodknmaaa.V
open Go
variable [Sig]
section
variable {P : Program} {a : Act} {o : Oper} {w : World} {F : Mem} {L : Lay} {b0 : Nat} {g : Nat → Option Obj} {tm : List U}
theorem makeSlice_ok {id : Nat} {t : TypeId} {x y : Operand} {r : Res} (hop : o.op = .makeSlice t x y) (h : (evalU tm x).bind (fun u => (evalU tm y).bind (opMakeSlice P id t u)) = some r) (hS : SR w F L b0 g) (hT : TR F L tm a.tmps) (hid : g id = none) (hb : b0 ≤ w.heap.size) :
    OpOk P a o w F L b0 g r := by
  replace h := Option.bind_eq_some_iff.1 h
  obtain ⟨u, hu, h⟩ := h
  replace h := Option.bind_eq_some_iff.1 h
  obtain ⟨v, hv, h⟩ := h
  have hr := eval_rep hT hu
  have hrv := eval_rep hT hv
  unfold opMakeSlice at h
  split at h
  · rename_i e n m hus
    split at h
    · rename_i i ag z hi ha hz
      split at h
      · rename_i hcond
        obtain ⟨h0, hnm, hlim, hsz, hby, hzl⟩ := hcond
        obtain rfl := Option.some.inj h
        obtain ⟨i', zv, hi', hzv, hzm⟩ := zeroT_info hz
        rw [hi] at hi'
        obtain rfl := Option.some.inj hi'
        have e1 := ix_inv hr
        have e2 := ix_inv hrv
        obtain ⟨N, rfl⟩ : ∃ N : Nat, n = (N : Int) := ⟨n.toNat, by omega⟩
        obtain ⟨M, rfl⟩ : ∃ M : Nat, m = (M : Int) := ⟨m.toNat, by omega⟩
        have hMi : M * i.bytes ≤ 140737488355328 := by
          rw [← Int.natCast_mul] at hlim
          omega
        have hM : M ≤ 140737488355328 := Nat.le_trans (Nat.le_mul_of_pos_right M hby) hMi
        have hNM : N ≤ M := by omega
        have hrun : (Instr.makeSlice t (.int .i64 N) (.int .i64 M)).run P w = .ok (.slice (some ⟨w.heap.size, 0, none⟩) N M) (w.alloc (.cells ((Array.range (M * i.size)).map (zv.cells[· % zv.cells.size]!)) e)) := by
          have w1 : IntKind.i64.wrap (N : Int) = N := IntWalk.i64_in _ (by omega)
          have w2 : IntKind.i64.wrap (M : Int) = M := IntWalk.i64_in _ (by omega)
          have hs : (sizeOf e).run P w = .ok i.size w := by simp [sizeOf, typeInfo, hi]
          have ht : (typeInfo e).run P w = .ok i w := by simp [typeInfo, hi]
          have hz' : (zeroValue e).run P w = .ok zv w := by simp [zeroValue, typeInfo, hi, hzv]
          have hbM : (i.bytes : Int) * (M : Int) ≤ 140737488355328 := by rw [Int.mul_comm]; exact hlim
          unfold Instr.makeSlice
          simp only [Sem.run_bind, run_underlying hus, Result.andThen_ok, asInt, asIntOf, Sem.run_pure, ht, w1, w2]
          rw [if_neg (by
            have : (2 : Int) ^ 48 = 281474976710656 := rfl
            simp only [Bool.or_eq_true, decide_eq_true_eq, this]
            omega)]
          simp only [Sem.run_bind, run_askRoom, Result.andThen_ok, hs, Int.toNat_natCast]
          by_cases hm0 : M * i.size = 0
          · rw [if_pos hm0]
            have e0 : ∀ f : Nat → Value, (Array.range (M * i.size)).map f = #[] := by
              intro f
              rw [hm0]
              simp
            simp only [pure_bind, e0]
            rfl
          · rw [if_neg hm0]
            simp only [Sem.run_bind, hz', Result.andThen_ok, Sem.run_pure]
            rfl
        obtain ⟨inf, hL, g1, g2, g3, g4, hS', hE⟩ := hS.alloc id ⟨e, i.size, ag, 0, false, repeatD z N⟩ ((Array.range (M * i.size)).map (zv.cells[· % zv.cells.size]!)) hb hid hsz rfl
          (by simp [repeatD_length, hzl]; exact Nat.mul_le_mul_right _ hNM) (zeros_ok hzm (by omega) N (M * i.size) (by rw [hzl]; exact Nat.mul_le_mul_right _ hNM) F L)
        refine ⟨.slice (some ⟨w.heap.size, 0, none⟩) N M, _, F, _, .inl ?_, hE, ?_, ?_⟩
        · simp only [execOp, hop, Sem.run_bind, e1, e2]
          rw [hrun]
          rfl
        · exact hS'
        · have := RepU.own (F := F) id 0 N M inf hL hNM (by rw [g3, g4]; simp)
          rw [g1, g2] at this
          simpa using this
      · simp at h
    · simp at h
  · simp at h
theorem bytesOfD_some : ∀ {l : List D} {b : List UInt8}, bytesOfD l = some b → b.length = l.length ∧ ∀ (j : Nat) y, l[j]? = some y → ∃ n : Int, y = .int .u8 n ∧ b[j]? = some (UInt8.ofNat n.toNat) := by
  have _s : Sig := inferInstance
  intro l
  induction l with
  | nil => intro b h; simp [bytesOfD] at h; subst h; exact ⟨rfl, fun j y h => by simp at h⟩
  | cons d l ih =>
    intro b h
    obtain ⟨n, rfl, b', hb', rfl⟩ : ∃ n, d = .int .u8 n ∧ ∃ b', bytesOfD l = some b' ∧ UInt8.ofNat n.toNat :: b' = b := by
      unfold bytesOfD at h
      split at h
      · rename_i e; simp at e
      · rename_i n r e
        obtain ⟨rfl, rfl⟩ := List.cons.inj e
        obtain ⟨b', hb', e'⟩ := Option.map_eq_some_iff.1 h
        exact ⟨n, rfl, b', hb', e'⟩
      · simp at h
    obtain ⟨h1, h2⟩ := ih hb'
    refine ⟨by simp [h1], fun j y hy => ?_⟩
    cases j with
    | zero => simp at hy; subst hy; exact ⟨n, rfl, rfl⟩
    | succ j => simp at hy; simpa using h2 j y hy
theorem push_all : ∀ (ns : List Int) (s : ByteArray), ns.foldl (fun r n => r.push (UInt8.ofNat n.toNat)) s = ⟨s.data ++ (ns.map fun n => UInt8.ofNat n.toNat).toArray⟩ := by
  have _s : Sig := inferInstance
  intro ns
  induction ns with
  | nil => intro s; simp
  | cons n ns ih =>
    intro s
    rw [List.foldl_cons, ih]
    congr 1
    apply Array.ext'
    simp [ByteArray.push]
theorem toStr_ok {ad : Addr} {n c : Nat} {l : List D} {b : List UInt8} (hb : bytesOfD l = some b) (hn : l.length = n) (val : Nat → Value) (hc : ∀ (j : Nat) y, l[j]? = some y → w.cell? (ad.add j) = some (val j) ∧ Rep F y (val j)) :
    (Conv.bytesToString (.slice (some ad) n c)).run P w = .ok (.string ⟨b.toArray⟩) w := by
  obtain ⟨hl, hg⟩ := bytesOfD_some hb
  have hex : ∀ j : Nat, ∃ m : Int, j < n → val j = .int .u8 m ∧ b[j]? = some (UInt8.ofNat m.toNat) := by
    intro j
    by_cases hj : j < n
    · obtain ⟨m, hm, hbm⟩ := hg j l[j] (List.getElem?_eq_getElem (by omega))
      refine ⟨m, fun _ => ⟨?_, hbm⟩⟩
      have := (hc j l[j] (List.getElem?_eq_getElem (by omega))).2
      rw [hm] at this
      generalize val j = v at this
      cases this
      rfl
    · exact ⟨0, fun h => absurd h hj⟩
  have hns : (((List.range n).map fun j => (hex j).choose).map (Value.int .u8)).length = n := by simp
  have hload := run_loadCells_list (P := P) w ad (((List.range n).map fun j => (hex j).choose).map (Value.int .u8)) (fun j v hv => by
    have hj : j < n := by have := (List.getElem?_eq_some_iff.1 hv).1; rw [hns] at this; exact this
    have h2 := (hex j).choose_spec hj
    rw [List.getElem?_map, List.getElem?_map, List.getElem?_range hj] at hv
    simp at hv
    subst hv
    rw [← h2.1]
    exact (hc j l[j] (List.getElem?_eq_getElem (by omega))).1)
  rw [hns] at hload
  rw [run_bytesToString w ad n c _ hload, push_all]
  congr 3
  apply Array.ext'
  simp
  apply List.ext_getElem?
  intro j
  by_cases hj : j < n
  · have h2 := (hex j).choose_spec hj
    rw [h2.2]
    simp [hj]
  · rw [List.getElem?_eq_none (by simp; omega), List.getElem?_eq_none (by omega)]
theorem bytes_ok {s d e : TypeId} {x : ByteArray} {v : Value} (hS : SR w F L b0 g) (hex : execOp a.eval o = (do pure (.value (← convert s d v)))) (hv : v = .string x) (hs : P.underlying s = some .string) (hd : P.underlying d = some (.slice e)) (he : P.underlying e = some (.int .u8)) :
    OpOk P a o w F L b0 g ⟨.dat (.lst (x.data.toList.map fun b => .int .u8 b.toNat)), [], []⟩ := by
  subst hv
  have hrun := run_bytes_of_string (P := P) w s d e x hs hd he
  generalize hcap : grownCap w x.size 0 e = cap at hrun
  have hcapl : x.size ≤ cap := by
    rw [← hcap]
    exact grownCap_ge w x.size 0 e
  generalize hrow : bytesRow x cap = row at hrun
  have hget : ∀ (j : Nat), j < x.size → row[j]? = some (.int .u8 (x.data.toList.getD j 0).toNat) := by
    intro j hj
    have hj' : j < x.data.size := hj
    rw [← hrow]
    have hx : x.data[j]? = some x.data[j] := Array.getElem?_eq_getElem hj'
    simp [bytesRow, Array.getElem?_append, List.getD, hx, hj]
  generalize hw' : w.drew.alloc (.cells row e (row.size, row.size + 1)) = w' at hrun
  have hheap : w'.heap = w.heap.push (.cells row e (row.size, row.size + 1)) := by rw [← hw']; rfl
  have hnew : w'.heap[w.heap.size]? = some (.cells row e (row.size, row.size + 1)) := by rw [hheap]; simp
  have hold : ∀ k, k < w.heap.size → w'.heap[k]? = w.heap[k]? := fun k hk => by rw [hheap, Array.getElem?_push, if_neg (by omega)]
  let F' : Mem := fun q => if q.block = w.heap.size ∧ q.spot = none ∧ q.off < x.size then w'.cell? q else F q
  have hmem : ∀ q u, F' q = some u → w'.cell? q = some u := by
    intro q u hq
    simp only [F'] at hq
    split at hq
    · exact hq
    · have h1 := hS.mem q u hq
      have hlt : q.block < w.heap.size := by
        rcases Nat.lt_or_ge q.block w.heap.size with h2 | h2
        · exact h2
        · rw [noF hS h2] at hq; simp at hq
      rw [World.cell?_of_block (w := w) (hold q.block hlt)]
      exact h1
  have hE : Evo w F none0 w' F' none0 := by
    refine ⟨by rw [hheap]; simp, by rw [← hw']; rfl, by rw [← hw']; rfl, by rw [← hw']; rfl, fun q u hq => ?_, .refl _, fun k hk _ => hold k hk, fun q hq => ?_, fun o' i hi => by simp [none0] at hi⟩
    · simp only [F']
      rw [if_neg]
      · exact hq
      · rintro ⟨h1, _⟩
        rw [noF hS (by omega)] at hq
        simp at hq
    · left
      simp only [F'] at hq
      split at hq
      · rename_i h1; omega
      · exact absurd rfl hq
  refine ⟨_, w', F', L, .inl ?_, (Evo.refl w F L).after hE, hS.after hE hmem, .dat _ _ (?_ : Rep F' _ (.slice (some ⟨w.heap.size, 0, none⟩) x.size cap))⟩
  · rw [hex]
    simp [hrun]
  · have hl : (x.data.toList.map fun b => D.int .u8 b.toNat).length = x.size := by simp
    have key := Rep.lst (F := F') (x.data.toList.map fun b => D.int .u8 b.toNat) ⟨w.heap.size, 0, none⟩ cap 1 (fun i _ => .int .u8 (x.data.toList.getD i 0).toNat) (by rw [hl]; exact hcapl)
      (fun y hy => by obtain ⟨b, _, rfl⟩ := List.mem_map.1 hy; rfl)
      (fun i y j z hy hz => by
        rw [List.getElem?_map] at hy
        obtain ⟨b, _, rfl⟩ := Option.map_eq_some_iff.1 hy
        simp [D.cells] at hz
        cases j with
        | zero => simp at hz; subst hz; rfl
        | succ j => simp at hz)
      (fun i y j z hy hz => by
        have hi : i < x.size := by rw [← hl]; exact (List.getElem?_eq_some_iff.1 hy).1
        rw [List.getElem?_map] at hy
        obtain ⟨b, hb, rfl⟩ := Option.map_eq_some_iff.1 hy
        simp [D.cells] at hz
        cases j with
        | zero =>
          rw [add_none]
          simp only [F', Nat.mul_one, Nat.add_zero, Nat.zero_add]
          rw [if_pos ⟨trivial, trivial, hi⟩]
          simp [World.cell?, hnew, hget i hi]
        | succ j => simp at hz)
      (fun i y j z hy hz => by
        rw [List.getElem?_map] at hy
        obtain ⟨b, hb, rfl⟩ := Option.map_eq_some_iff.1 hy
        simp [D.cells] at hz
        cases j with
        | zero => simp at hz; subst hz; simp only [List.getD, hb, Option.getD_some]; exact .int _ _
        | succ j => simp at hz)
    rw [hl] at key
    exact key
theorem newrow_ok {e : TypeId} {ds : List D} {row : Array Value} {fr : Nat × Nat} {cap : Nat} (hS : SR w F L b0 g) (hrun : (execOp a.eval o).run P w = .ok (.value (.slice (some ⟨w.heap.size, 0, none⟩) ds.length cap)) (w.drew.alloc (.cells row e fr)))
    (hcapl : ds.length ≤ cap) (hone : ∀ d ∈ ds, d.one = true) (hrow : ∀ (j : Nat) d, ds[j]? = some d → ∃ x, row[j]? = some x ∧ ∀ F, Rep F d x) : OpOk P a o w F L b0 g ⟨.dat (.lst ds), [], []⟩ := by
  generalize hw' : w.drew.alloc (.cells row e fr) = w' at hrun
  have hheap : w'.heap = w.heap.push (.cells row e fr) := by rw [← hw']; rfl
  have hnew : w'.heap[w.heap.size]? = some (.cells row e fr) := by rw [hheap]; simp
  have hold : ∀ k, k < w.heap.size → w'.heap[k]? = w.heap[k]? := fun k hk => by rw [hheap, Array.getElem?_push, if_neg (by omega)]
  let F' : Mem := fun q => if q.block = w.heap.size ∧ q.spot = none ∧ q.off < ds.length then w'.cell? q else F q
  have hmem : ∀ q u, F' q = some u → w'.cell? q = some u := by
    intro q u hq
    simp only [F'] at hq
    split at hq
    · exact hq
    · have h1 := hS.mem q u hq
      have hlt : q.block < w.heap.size := by
        rcases Nat.lt_or_ge q.block w.heap.size with h2 | h2
        · exact h2
        · rw [noF hS h2] at hq; simp at hq
      rw [World.cell?_of_block (w := w) (hold q.block hlt)]
      exact h1
  have hE : Evo w F none0 w' F' none0 := by
    refine ⟨by rw [hheap]; simp, by rw [← hw']; rfl, by rw [← hw']; rfl, by rw [← hw']; rfl, fun q u hq => ?_, .refl _, fun k hk _ => hold k hk, fun q hq => ?_, fun o' i hi => by simp [none0] at hi⟩
    · simp only [F']
      rw [if_neg]
      · exact hq
      · rintro ⟨h1, _⟩
        rw [noF hS (by omega)] at hq
        simp at hq
    · left
      simp only [F'] at hq
      split at hq
      · rename_i h1; omega
      · exact absurd rfl hq
  refine ⟨_, w', F', L, .inl hrun, (Evo.refl w F L).after hE, hS.after hE hmem, .dat _ _ (?_ : Rep F' _ (.slice (some ⟨w.heap.size, 0, none⟩) ds.length cap))⟩
  have hcell : ∀ (i : Nat) y (j : Nat) z, ds[i]? = some y → y.cells[j]? = some z → j = 0 ∧ z = y := by
    intro i y j z hy hz
    rw [D.cells_one (hone y (List.mem_of_getElem? hy))] at hz
    cases j with
    | zero => simp at hz; exact ⟨rfl, hz.symm⟩
    | succ j => simp at hz
  refine Rep.lst (F := F') ds ⟨w.heap.size, 0, none⟩ cap 1 (fun i _ => (row[i]?).getD Go.undef) hcapl (fun y hy => by rw [D.cells_one (hone y hy)]; rfl)
    (fun i y j z hy hz => by obtain ⟨_, rfl⟩ := hcell i y j z hy hz; exact hone _ (List.mem_of_getElem? hy))
    (fun i y j z hy hz => ?_) (fun i y j z hy hz => ?_)
  · obtain ⟨rfl, rfl⟩ := hcell i y j z hy hz
    have hi : i < ds.length := (List.getElem?_eq_some_iff.1 hy).1
    obtain ⟨x, hx, _⟩ := hrow i _ hy
    rw [add_none]
    simp only [F', Nat.mul_one, Nat.add_zero, Nat.zero_add]
    rw [if_pos ⟨trivial, trivial, hi⟩]
    simp [World.cell?, hnew, hx]
  · obtain ⟨rfl, rfl⟩ := hcell i y j z hy hz
    obtain ⟨x, hx, hr⟩ := hrow i _ hy
    rw [hx]
    exact hr F'
theorem runes_ok {s d e : TypeId} {x : ByteArray} {v : Value} (hS : SR w F L b0 g) (hex : execOp a.eval o = (do pure (.value (← convert s d v)))) (hv : v = .string x) (hs : P.underlying s = some .string) (hd : P.underlying d = some (.slice e)) (he : P.underlying e = some (.int .i32)) (hx : x.size ≤ 70368744177664) :
    OpOk P a o w F L b0 g ⟨.dat (.lst (runesD x)), [], []⟩ := by
  subst hv
  have hsz := size_runesFrom x x.size 0 #[]
  simp at hsz
  have hrun := run_runes_of_string (P := P) w s d e x hs hd he (by omega)
  have hlen : (runesD x).length = (Conv.runesFrom x x.size 0 #[]).size := by simp [runesD]
  have hint : ∀ v ∈ (Conv.runesFrom x x.size 0 #[]).toList, ∃ n, v = .int .i32 n := runesFrom_int x x.size 0 #[] (fun v hv => by simp at hv)
  refine newrow_ok (e := e) (ds := runesD x) (row := Conv.runesFrom x x.size 0 #[] ++ Array.replicate (grownCap w (Conv.runesFrom x x.size 0 #[]).size 0 e - (Conv.runesFrom x x.size 0 #[]).size) (.int .i32 0)) (fr := (0, 0)) (cap := grownCap w (Conv.runesFrom x x.size 0 #[]).size 0 e) hS (by rw [hex, hlen]; simp [hrun]) (by rw [hlen]; exact grownCap_ge w _ 0 e) (fun y hy => ?_) (fun j y hy => ?_)
  · obtain ⟨v, hv, rfl⟩ := List.mem_map.1 hy
    obtain ⟨n, rfl⟩ := hint v hv
    rfl
  · unfold runesD at hy
    rw [List.getElem?_map] at hy
    obtain ⟨v, hv, rfl⟩ := Option.map_eq_some_iff.1 hy
    obtain ⟨n, rfl⟩ := hint v (List.mem_of_getElem? hv)
    have hj : j < (Conv.runesFrom x x.size 0 #[]).size := by have := (List.getElem?_eq_some_iff.1 hv).1; simpa using this
    refine ⟨.int .i32 n, ?_, fun F => .int _ _⟩
    rw [Array.getElem?_append_left hj]
    simpa using hv
theorem run_forIn_runes {f : Value → ByteArray → Sem (ForInStep ByteArray)} (hf : ∀ (n : Int) (r : ByteArray), (f (.int .i32 n) r).run P w = .ok (.yield (r ++ Utf8.encode n)) w) :
    ∀ (ns : List Int) (s : ByteArray), (forIn (ns.map (Value.int .i32)) s f).run P w = .ok (ns.foldl (fun r n => r ++ Utf8.encode n) s) w := by
  have _s : Sig := inferInstance
  intro ns
  induction ns with
  | nil => intro s; simp [Sem.run_pure]
  | cons n ns ih =>
    intro s
    simp only [List.map_cons, List.forIn_cons, Sem.run_bind, hf, Result.andThen, List.foldl_cons]
    exact ih _
theorem run_runesToString (ad : Addr) (len cap : Nat) (ns : List Int) (h : (loadCells ad len).run P w = .ok (ns.map (Value.int .i32)).toArray w) :
    (Conv.runesToString (.slice (some ad) len cap)).run P w = .ok (.string (encAll ns)) w := by
  have _s : Sig := inferInstance
  unfold Conv.runesToString
  simp only [Sem.run_bind, h, Result.andThen, List.forIn_toArray]
  rw [run_forIn_runes (by intro n r; simp [Sem.run_pure])]
  simp [Sem.run_pure, encAll]
theorem convert_ok {s d : TypeId} {x : Operand} {r : Res} (hop : o.op = .convert s d x) (h : (evalU tm x).bind (opConvert P g s d) = some r) (hS : SR w F L b0 g) (hT : TR F L tm a.tmps) : OpOk P a o w F L b0 g r := by
  replace h := Option.bind_eq_some_iff.1 h
  obtain ⟨u, hu, h⟩ := h
  have hr := eval_rep hT hu
  unfold opConvert at h
  split at h
  · rename_i e hs hd
    split at h
    · rename_i s' he
      obtain rfl := Option.some.inj h
      have hv : a.eval x = .string s' := by
        generalize a.eval x = v at hr
        cases hr with
        | dat _ _ hr => cases hr; rfl
      exact bytes_ok hS ((by simp [execOp, hop]) : (execOp a.eval o) = (do pure (.value (← convert s d (a.eval x))))) hv hs hd he
    · rename_i s' he
      split at h
      · rename_i hsz
        obtain rfl := Option.some.inj h
        have hv : a.eval x = .string s' := by
          generalize a.eval x = v at hr
          cases hr with
          | dat _ _ hr => cases hr; rfl
        exact runes_ok hS ((by simp [execOp, hop]) : (execOp a.eval o) = (do pure (.value (← convert s d (a.eval x))))) hv hs hd he hsz
      · simp at h
    · simp at h
  · rename_i e hs hd
    split at h
    · rename_i he
      have hrun : ∀ (ao : Option Addr) (n c : Nat) (b : ByteArray), a.eval x = .slice ao n c → (Conv.bytesToString (.slice ao n c)).run P w = .ok (.string b) w → (execOp a.eval o).run P w = .ok (.value (.string b)) w := by
        intro ao n c b hv hb
        cases ao <;> simp [execOp, hop, convert, run_underlying hs, run_underlying hd, run_underlying he, hv, hb]
      split at h
      · obtain rfl := Option.some.inj h
        exact .quiet hS rfl (hrun none 0 0 _ (nil_inv (dat_inv hr)) (by simp [Conv.bytesToString])) (.dat _ _ (.str _))
      · rename_i l
        obtain ⟨b, hb, rfl⟩ := Option.map_eq_some_iff.1 h
        have hrl := dat_inv hr
        generalize hv : a.eval x = v at hrl
        cases hrl with
        | lst _ ad c sz val hc hsz ho hF hR =>
          refine .quiet hS rfl (hrun _ _ _ _ hv (toStr_ok (F := F) hb rfl (fun j => val j 0) (fun j y hy => ?_))) (.dat _ _ (.str _))
          obtain ⟨m, rfl, _⟩ := (bytesOfD_some hb).2 j y hy
          have h1 : sz = 1 := by have := hsz _ (List.mem_of_getElem? hy); simpa [D.cells] using this.symm
          subst h1
          have h2 := hF j _ 0 (.int .u8 m) hy rfl
          rw [Nat.mul_one, Nat.add_zero] at h2
          exact ⟨hS.mem _ _ h2, hR j _ 0 _ hy rfl⟩
      · rename_i x' gn off n
        split at h
        · rename_i ob hg
          split at h
          · rename_i hcond
            obtain ⟨hgn, hes, hlen⟩ := hcond
            obtain ⟨b, hb, rfl⟩ := Option.map_eq_some_iff.1 h
            obtain ⟨ds, hds, hb⟩ := Option.bind_eq_some_iff.1 hb
            obtain ⟨inf, ad, c, hL, hig, hie, hv, hnc, had⟩ := own_now hS hg hgn hr
            obtain ⟨vs, hvl, hc, hR, ho⟩ := hS.cells hg hL (by omega) off n hlen
            have hdl : ds.length = n := by rw [(mapM_some hds).1]; simp; omega
            refine .quiet hS rfl (hrun _ _ _ _ hv (toStr_ok (F := F) hb hdl (fun j => vs.getD j Go.undef) (fun j y hy => ?_))) (.dat _ _ (.str _))
            obtain ⟨u', hu', hd'⟩ := mapM_back hds hy
            have hu2 : u' = .dat y := by cases u' <;> simp [asDat] at hd'; rw [hd']
            subst hu2
            have hj : j < n := by rw [← hdl]; exact (List.getElem?_eq_some_iff.1 hy).1
            have hvj : vs[j]? = some vs[j] := List.getElem?_eq_getElem (by omega)
            obtain ⟨rfl, _⟩ := had (by omega)
            have hgd : vs.getD j Go.undef = vs[j] := by simp [List.getD_eq_getElem?_getD, hvj]
            rw [hgd, add_none, hie, hes, Nat.mul_one]
            exact ⟨hc j _ hvj, dat_inv (hR j _ _ hu' hvj)⟩
          · simp at h
        · simp at h
      · simp at h
    · rename_i he
      split at h
      · rename_i l
        obtain ⟨ns, hns, rfl⟩ := Option.map_eq_some_iff.1 h
        have hl := runesOfD_some hns
        have hrl := dat_inv hr
        generalize hv : a.eval x = v at hrl
        cases hrl with
        | lst _ ad c sz val hc hsz ho hF hR =>
          have hload := run_loadCells_list (P := P) w ad (ns.map (Value.int .i32)) (fun j v hj => by
            rw [List.getElem?_map] at hj
            obtain ⟨n, hn, rfl⟩ := Option.map_eq_some_iff.1 hj
            have hlj : l[j]? = some (D.int .i32 n) := by rw [hl, List.getElem?_map, hn]; rfl
            have h1 : sz = 1 := by have := hsz _ (List.mem_of_getElem? hlj); simpa [D.cells] using this.symm
            subst h1
            have h2 := hF j _ 0 _ hlj rfl
            have h3 := hR j _ 0 _ hlj rfl
            rw [Nat.mul_one, Nat.add_zero] at h2
            generalize val j 0 = z at h2 h3
            cases h3
            exact hS.mem _ _ h2)
          have hlen : (ns.map (Value.int .i32)).length = l.length := by rw [hl]; simp
          rw [hlen] at hload
          refine .quiet hS rfl (v := .string (encAll ns)) ?_ (.dat _ _ (.str _))
          simp [execOp, hop, convert, run_underlying hs, run_underlying hd, run_underlying he, hv, run_runesToString ad l.length c ns hload]
      · simp at h
    · simp at h
  · rename_i e' e hs hd
    split at h
    · rename_i x' gn off n hbe he
      split at h
      · rename_i ob hg
        split at h
        · rename_i hgn0
          obtain ⟨hgn, he0⟩ := hgn0
          obtain rfl := Option.some.inj h
          obtain rfl := Nat.eq_of_beq_eq_true hbe
          obtain rfl : e' = e := by rw [hs] at hd; injection Option.some.inj hd
          obtain ⟨inf, ad, c, hL, hig, hie, hv, hnc, had⟩ := own_now hS hg hgn hr
          obtain ⟨rfl, _⟩ := had (by omega)
          obtain ⟨i', arr, hL', r1, r2, r3, r4, hh0, r5, hcs, hfr⟩ := hS.obj x' ob hg
          rw [hL] at hL'
          obtain rfl := Option.some.inj hL'
          have hh := hh0.row he0
          obtain ⟨fr, hfr0, hheap⟩ := id hh
          have hfree : RowAt (w.freeze ⟨inf.blk, arr.size, none⟩ 1) inf.blk arr ob.ty := by
            refine ⟨if fr.1 == fr.2 then (arr.size, arr.size + 1) else (min fr.1 arr.size, max fr.2 (arr.size + 1)), ?_, ?_⟩
            · rcases hfr0 with rfl | hfr0
              · exact .inr (by simp)
              · refine .inr ?_
                split
                · simp
                · simp only; omega
            · unfold World.freeze
              simp only [Nat.one_ne_zero, if_false]
              rw [Array.getElem?_modify]
              simp [hheap]
          have hrun : (execOp a.eval o).run P w = .ok (.value (.slice (some ⟨inf.blk, off * inf.esz, none⟩) (n + 1) c)) (w.freeze ⟨inf.blk, arr.size, none⟩ 1) := by
            have hsh : w.shape? inf.blk = some (ob.ty, arr.size) := by simp [World.shape?, hheap]
            simp [execOp, hop, convert, run_underlying hs, run_underlying he, hv, markStringish, shape, freeze, Sem.run, hsh]
          obtain ⟨hS', hE⟩ := hS.upd (w' := w.freeze ⟨inf.blk, arr.size, none⟩ 1) x' ob inf arr (by simp [World.freeze]) rfl rfl rfl
            (fun k _ hk => by unfold World.freeze; simp only [Nat.one_ne_zero, if_false]; rw [Array.getElem?_modify]; simp [Ne.symm hk])
            (.inl ⟨he0, hfree⟩) (fun h => absurd h (by omega)) r3 r1 r2 r4 r5 (fun off v hF => by have := hS.mem _ _ hF; rw [hh.cell] at this; exact this) hfr (.inl ⟨inf, hL, rfl, .inl rfl⟩)
            (fun j u hu => by obtain ⟨h1, v, hv', hr'⟩ := hcs j u hu; exact ⟨h1, v, hv', .inl hr'⟩)
          exact ⟨_, _, F, _, .inl hrun, hE, hS', hv ▸ hr.mono (.refl _) hE.layLe⟩
        · simp at h
      · simp at h
    · simp at h
  · simp at h
theorem clear_ok {t : TypeId} {c : Call} {x : Operand} {r : Res} (hop : o.op = .call c) (hcal : c.callee = .builtin .clear) (hargs : c.args.toList = [x]) (htys : c.argTypes.toList = [t])
    (h : (evalU tm x).bind (opClear P g t) = some r) (hS : SR w F L b0 g) (hT : TR F L tm a.tmps) : OpOk P a o w F L b0 g r := by
  replace h := Option.bind_eq_some_iff.1 h
  obtain ⟨u, hu, h⟩ := h
  have hr := eval_rep hT hu
  have hca : c.args = #[x] := by rw [← Array.toArray_toList (xs := c.args), hargs]
  have hct : c.argTypes = #[t] := by rw [← Array.toArray_toList (xs := c.argTypes), htys]
  unfold opClear at h
  split at h
  · rename_i e x' gn off n hus
    split at h
    · rename_i ob sz z hg hsz hz
      split at h
      · rename_i hcond
        obtain ⟨hgn, hes, h0, hsn, hzl, hlen⟩ := hcond
        obtain rfl := Option.some.inj h
        obtain ⟨inf, ad, cp, hL, hig, hie, hv, hnc, had⟩ := own_now hS hg hgn hr
        obtain ⟨i, zv, hi, hzv, hzm⟩ := zeroT_info hz
        by_cases hn : n = 0
        · subst hn
          have hsame : (fun y => if y = x' then some { ob with cells := splice ob.cells (off * sz) (repeatD z 0) } else g y) = g := by
            funext y
            by_cases hy : y = x'
            · subst hy
              have : splice ob.cells (off * sz) (repeatD z 0) = ob.cells := by simp [splice, repeatD]
              simp only [if_true, this]
              exact hg.symm
            · simp [hy]
          refine ⟨Go.undef, w, F, L, .inl ?_, .refl _ _ _, ?_, .undef⟩
          · simp [execOp, hop, resolve, hcal, hca, hct, invoke, builtin, Builtin.clear_, run_underlying hus, hv, Go.undef]
          · show SR w F L b0 (fun y => if y = x' then some { ob with cells := splice ob.cells (off * sz) (repeatD z 0) } else g y)
            rw [hsame]
            exact hS
        · obtain ⟨rfl, hcap⟩ := had (by omega)
          have hzsz : zv.cells.size = sz := by rw [← hzl, (mapM_some hzm).1]; simp
          have hrl := repeatD_length z n
          have hlen' : off * sz + n * sz ≤ ob.cells.length := by rw [← Nat.add_mul]; exact hlen
          obtain ⟨w', L', hrun, hE, hS'⟩ := hS.write (P := P) hg hL (by rw [hes]; exact h0) hsn (off * sz) (repeatD z n) (Builtin.zeroCells zv.cells n).toList (by simp [zeroCells_size, hzsz, hrl, hzl]) (by rw [hrl, hzl]; exact hlen') (fun j u hu => by
            obtain ⟨ho, v, hv', hrv⟩ := zeros_ok hzm (by omega) n (n * zv.cells.size) (by rw [hzsz, hzl]; exact Nat.le_refl _) F L j u hu
            exact ⟨ho, v, by unfold Builtin.zeroCells; rw [Array.getElem?_toList]; exact hv', hrv⟩)
          refine ⟨Go.undef, w', F, L', .inl ?_, hE, hS', .undef⟩
          have hz' : (zeroValue e).run P w = .ok zv w := by simp [zeroValue, typeInfo, hi, hzv]
          obtain ⟨k, rfl⟩ : ∃ k, n = k + 1 := ⟨n - 1, by omega⟩
          rw [hie, hes] at hv
          simp [execOp, hop, resolve, hcal, hca, hct, invoke, builtin, Builtin.clear_, run_underlying hus, hv, Go.undef, hz', hrun]
      · simp at h
    · simp at h
  · simp at h
theorem len_val {u : U} {v : Value} {n : Nat} (h : lenU u = some n) (hr : RepU F L u v) : (isTextU u = false ∧ ∃ b c, v = .slice b n c) ∨ ∃ s, v = .string s ∧ s.size = n := by
  cases u with
  | dat d =>
    cases d with
    | nil => simp [lenU] at h; subst h; cases hr with | dat _ _ hr => cases hr; exact .inl ⟨rfl, _, _, rfl⟩
    | lst l => simp [lenU] at h; subst h; cases hr with | dat _ _ hr => cases hr; exact .inl ⟨rfl, _, _, rfl⟩
    | str s => simp [lenU] at h; subst h; cases hr with | dat _ _ hr => cases hr; exact .inr ⟨_, rfl, rfl⟩
    | _ => simp [lenU] at h
  | own x gn off n' =>
    simp [lenU] at h
    subst h
    cases hr
    · exact .inl ⟨rfl, _, _, rfl⟩
    · exact .inl ⟨rfl, _, _, rfl⟩
    · exact .inl ⟨rfl, _, _, rfl⟩
  | _ => simp [lenU] at h
theorem take_val {u : U} {v : Value} {n c : Nat} (h : lenU u = some n) (hc : c ≤ n) (hr : RepU F L u v) : ∃ v', RepU F L (takeU c u) v' ∧ ∀ sz, Builtin.firstCells sz c v = Builtin.firstCells sz c v' := by
  cases u with
  | dat d =>
    cases hr with
    | dat _ _ hr =>
      cases d with
      | nil => exact ⟨v, .dat _ _ hr, fun _ => rfl⟩
      | lst l =>
        simp [lenU] at h
        subst h
        cases hr with
        | lst _ a cp sz val hcl hsz ho hF hR =>
          have hget : ∀ (i : Nat) x, (l.take c)[i]? = some x → l[i]? = some x := by
            intro i x hx
            rw [List.getElem?_take] at hx
            split at hx
            · exact hx
            · simp at hx
          have hll : (l.take c).length = c := by simp; omega
          refine ⟨.slice (some a) (l.take c).length cp, .dat _ _ (.lst (l.take c) a cp sz val (by rw [hll]; omega) (fun x hx => hsz x (List.mem_of_mem_take hx)) (fun i x j y hx hy => ho i x j y (hget i x hx) hy) (fun i x j y hx hy => hF i x j y (hget i x hx) hy) (fun i x j y hx hy => hR i x j y (hget i x hx) hy)), fun _ => rfl⟩
      | str s =>
        cases hr with
        | str =>
          refine ⟨.string (s.extract 0 c), .dat _ _ (.str _), fun sz => ?_⟩
          have : (s.extract 0 c).extract 0 c = s.extract 0 c := by
            simp [ByteArray.extract_extract]
          simp only [Builtin.firstCells, this]
      | _ => simp [lenU] at h
  | own x gn off n' =>
    simp [lenU] at h
    subst h
    cases hr with
    | own _ _ _ cp i hL hn hcp => exact ⟨_, .own x off c cp i hL (by omega) hcp, fun _ => rfl⟩
    | ownEnd _ _ i a hL => have : c = 0 := by omega
                           subst this; exact ⟨_, .ownEnd x off i a hL, fun _ => rfl⟩
    | ownOld _ g' _ _ i a cp hL hg => exact ⟨_, .ownOld x gn off c i a cp hL hg, fun _ => rfl⟩
  | _ => simp [lenU] at h
theorem copy_ok {t tx : TypeId} {c : Call} {x y : Operand} {r : Res} (hop : o.op = .call c) (hcal : c.callee = .builtin .copy) (hargs : c.args.toList = [x, y]) (htys : c.argTypes.toList = [t, tx])
    (h : (evalU tm x).bind (fun u => (evalU tm y).bind (opCopy P g t tx u)) = some r) (hS : SR w F L b0 g) (hT : TR F L tm a.tmps) : OpOk P a o w F L b0 g r := by
  replace h := Option.bind_eq_some_iff.1 h
  obtain ⟨u, hu, h⟩ := h
  replace h := Option.bind_eq_some_iff.1 h
  obtain ⟨s, hs, h⟩ := h
  have hru := eval_rep hT hu
  have hrs := eval_rep hT hs
  have hca : c.args = #[x, y] := by rw [← Array.toArray_toList (xs := c.args), hargs]
  have hct : c.argTypes = #[t, tx] := by rw [← Array.toArray_toList (xs := c.argTypes), htys]
  unfold opCopy at h
  split at h
  · rename_i hrow
    simp only [Bool.and_eq_true, Bool.not_eq_true'] at hrow
    obtain ⟨hrow, htext⟩ := hrow
    split at h
    · rename_i e n m hus hn hm
      split at h
      · rename_i sz hsz
        obtain ⟨bu, cu, hvu⟩ : ∃ b c, a.eval x = .slice b n c := by
          rcases len_val hn hru with ⟨_, h⟩ | ⟨s', h, _⟩
          · exact h
          · exfalso
            generalize a.eval x = v at hru h
            subst h
            cases hru with
            | dat d _ hd => cases hd <;> first | (simp [isTextU] at htext; done) | simp [lenU] at hn
            | junk => simp [lenU] at hn
        have hlen : (Builtin.lenOf (a.eval y)).run P w = .ok m w := by
          rcases len_val hm hrs with ⟨_, b, cp, h⟩ | ⟨s', h, hsz'⟩
          · rw [h]; rfl
          · rw [h]; simp [Builtin.lenOf, hsz']
        have hmin : Nat.min m n = min m n := rfl
        have hsize := run_sizeOf hsz w
        split at h
        · rename_i h0
          obtain rfl := Option.some.inj h
          have hf : (Builtin.firstCells sz 0 (a.eval y)).run P w = .ok #[] w := by
            rcases len_val hm hrs with ⟨_, b, cp, h⟩ | ⟨s', h, hsz'⟩
            · rw [h]
              cases b with
              | none => rfl
              | some ad => exact run_firstCells_some w sz 0 ad m cp [] (by simp) (fun j v h => by simp at h)
            · rw [h]
              simp [Builtin.firstCells]
          refine .quiet hS rfl (v := .int .i64 0) ?_ (.dat _ _ (.int ..))
          cases bu with
          | none => simp [execOp, hop, resolve, hcal, hca, hct, invoke, builtin, Builtin.copy_, run_underlying hus, hvu, hlen, hmin, h0, hsize, hf, goInt]
          | some ad => simp [execOp, hop, resolve, hcal, hca, hct, invoke, builtin, Builtin.copy_, run_underlying hus, hvu, hlen, hmin, h0, hsize, hf, goInt, storeCells]
        · rename_i h0
          split at h
          · rename_i x' gn off n'
            split at h
            · rename_i ob xs c' rd hg hsrc
              split at h
              · rename_i hcond
                obtain ⟨hgn, hes, hsz0, hsn, hc', hfit⟩ := hcond
                obtain rfl := Option.some.inj h
                obtain ⟨v', hrv', hfirst⟩ := take_val hm (Nat.min_le_left m n) hrs
                obtain ⟨news, hnl, hxl, hxx, hsrcv⟩ := src_ok hsrc hsz0 hS hrv' hrow
                obtain ⟨inf, ad, cp, hL, hig, hie, hv, hnc, had⟩ := own_now hS hg hgn hru
                have hnn : n' = n := by simp [lenU] at hn; exact hn
                subst hnn
                obtain ⟨rfl, hcap⟩ := had (by omega)
                obtain ⟨w', L', hrun, hE, hS'⟩ := hS.write (P := P) hg hL (by rw [hes]; exact hsz0) hsn (off * sz) xs news (by rw [hnl]) hfit hxx
                have hfr : (Builtin.firstCells sz (min m n') (a.eval y)).run P w = .ok news.toArray w := by
                  rw [hfirst, ← hc']
                  exact hsrcv.cells
                refine ⟨.int .i64 (min m n'), w', F, L', .inl ?_, hE, hS', .dat _ _ (.int ..)⟩
                rw [hie, hes] at hv
                simp [execOp, hop, resolve, hcal, hca, hct, invoke, builtin, Builtin.copy_, run_underlying hus, hv, hlen, hmin, hsize, hfr, goInt, hrun]
                omega
              · simp at h
            · simp at h
          · simp at h
      · simp at h
    · simp at h
  · simp at h
theorem bool_inv {b : Bool} {v : Value} (h : Rep F (.bool b) v) : v = .bool b := by cases h; rfl
theorem opStep_ok {id : Nat} {r : Res} (h : opStep P g id tm o = some r) (hS : SR w F L b0 g) (hT : TR F L tm a.tmps) (hid : g id = none) (hb : b0 ≤ w.heap.size) : OpOk P a o w F L b0 g r := by
  unfold opStep at h
  split at h
  · rename_i x hop
    obtain ⟨u, hu, rfl⟩ := Option.map_eq_some_iff.1 h
    exact .quiet hS rfl (v := a.eval x) (by simp [execOp, hop]) (eval_rep hT hu)
  · rename_i x hop
    obtain ⟨u, hu, rfl⟩ := Option.map_eq_some_iff.1 h
    exact .quiet hS rfl (v := a.eval x) (by simp [execOp, hop]) (eval_rep hT hu)
  · rename_i c x y hop
    split at h
    · rename_i hc
      obtain ⟨u, hu, rfl⟩ := Option.map_eq_some_iff.1 h
      have hcv : a.eval c = .bool true := bool_inv (dat_inv (eval_rep hT hc))
      exact .quiet hS rfl (v := a.eval x) (by simp [execOp, hop, hcv, asBool]) (eval_rep hT hu)
    · rename_i hc
      obtain ⟨u, hu, rfl⟩ := Option.map_eq_some_iff.1 h
      have hcv : a.eval c = .bool false := bool_inv (dat_inv (eval_rep hT hc))
      exact .quiet hS rfl (v := a.eval y) (by simp [execOp, hop, hcv, asBool]) (eval_rep hT hu)
    · simp at h
  · rename_i t hop
    exact alloc_ok hop h hS hid hb
  · rename_i t x hop
    exact box_ok hop h hS hT hid hb
  · rename_i t ps hop
    exact build_ok hop h hS hT
  · rename_i t n ps hop
    exact buildSlice_ok hop h hS hT hid hb
  · rename_i t x hop
    exact load_ok hop h hS hT
  · rename_i t x y hop
    exact store_ok hop h hS hT
  · rename_i x hop
    split at h
    · rename_i x' gn p hx
      obtain rfl := Option.some.inj h
      have hr := eval_rep hT hx
      obtain ⟨ad, hv⟩ := ptr_inv hr
      exact .quiet hS rfl (v := a.eval x) (by simp [execOp, hop, hv]) hr
    · rename_i cs hx
      obtain rfl := Option.some.inj h
      have hr := eval_rep hT hx
      obtain ⟨ad, hv⟩ := fp_inv (dat_inv hr)
      exact .quiet hS rfl (v := a.eval x) (by simp [execOp, hop, hv]) hr
    · rename_i f cs hx
      obtain rfl := Option.some.inj h
      have hr := eval_rep hT hx
      have hv : ∃ vs, a.eval x = .func (.func f) #[] vs := by
        generalize a.eval x = v at hr
        cases dat_inv hr with
        | fn _ _ vs _ _ => exact ⟨_, rfl⟩
      obtain ⟨vs, hv⟩ := hv
      exact .quiet hS rfl (v := a.eval x) (by simp [execOp, hop, hv]) hr
    · rename_i f cs hx
      obtain rfl := Option.some.inj h
      have hr := eval_rep hT hx
      have hv : ∃ vs, a.eval x = .func (.func f) #[] vs := by
        generalize a.eval x = v at hr
        cases hr with
        | fn _ _ vs _ _ => exact ⟨_, rfl⟩
      obtain ⟨vs, hv⟩ := hv
      exact .quiet hS rfl (v := a.eval x) (by simp [execOp, hop, hv]) hr
    · simp at h
  · rename_i s x f hop
    exact fieldAddr_ok hop h hS hT
  · rename_i t x f hop
    exact field_ok hop h hS hT
  · rename_i t x y hop
    exact indexAddr_ok hop h hS hT
  · rename_i t x y hop
    split at h
    · rename_i r' hp
      obtain rfl := Option.some.inj h
      exact opPure_ok hp hS hT
    · exact index_ok hop h hS hT
  · rename_i t x lo hi mx hop
    split at h
    · rename_i r' hp
      obtain rfl := Option.some.inj h
      exact opPure_ok hp hS hT
    · exact slice_ok hop h hS hT
  · rename_i x i hop
    split at h
    · rename_i l hx
      obtain ⟨u, hu, rfl⟩ := Option.map_eq_some_iff.1 h
      have hr := eval_rep hT hx
      generalize hv : a.eval x = v at hr
      cases hr with
      | tup _ vs hl hR =>
        have hlt : i < vs.length := by rw [hl]; exact (List.getElem?_eq_some_iff.1 hu).1
        exact .quiet hS rfl (v := vs[i]) (by simp [execOp, hop, hv, Instr.extract, hlt]) (hR i u _ hu (List.getElem?_eq_getElem hlt))
    · simp at h
  · rename_i f first caps hop
    split at h
    · rename_i hf
      obtain ⟨l, hl, rfl⟩ := Option.map_eq_some_iff.1 h
      have hf' : first = #[] := by simpa using hf
      subst hf'
      refine .quiet hS rfl (v := .func (.func f) #[] (caps.toList.map a.eval).toArray) ?_ (.fn f l _ (by rw [List.length_map]; exact (mapM_some hl).1.symm) (fun i u v hu hv => ?_))
      · have : (caps.toList.map a.eval).toArray = caps.map a.eval := by rw [← Array.toList_map]
        rw [this]
        simp [execOp, hop, Instr.makeFunc]
      · obtain ⟨x, hx, he⟩ := mapM_back hl hu
        rw [List.getElem?_map, hx] at hv
        simp at hv
        subst hv
        exact eval_rep hT he
    · simp at h
  · rename_i t x y hop
    exact makeSlice_ok hop h hS hT hid hb
  · rename_i t hop
    exact makeMap_ok hop h hS hid hb
  · rename_i t x y ok hop
    split at h
    · rename_i r' hp
      obtain rfl := Option.some.inj h
      exact opPure_ok hp hS hT
    · exact lookup_ok hop h hS hT
  · rename_i t m k x hop
    exact mapUpdate_ok (.inl hop) h hS hT
  · rename_i t m k x hop
    exact mapUpdate_ok (.inr hop) h hS hT
  · rename_i t x y t2 hop
    split at h
    · rename_i r' hp
      obtain rfl := Option.some.inj h
      exact opPure_ok hp hS hT
    · exact eql_ok (neg := false) hop h hS hT
  · rename_i t x y t2 hop
    split at h
    · rename_i r' hp
      obtain rfl := Option.some.inj h
      exact opPure_ok hp hS hT
    · exact eql_ok (neg := true) hop h hS hT
  · rename_i s d x hop
    split at h
    · rename_i r' hp
      obtain rfl := Option.some.inj h
      exact opPure_ok hp hS hT
    · exact convert_ok hop h hS hT
  · rename_i c hop
    split at h
    · rename_i s x t tx hcal hargs htys
      exact append_ok hop hcal hargs htys h hS hT hid hb
    · rename_i x t hcal hargs htys
      split at h
      · rename_i r' hp
        obtain rfl := Option.some.inj h
        exact opPure_ok hp hS hT
      · exact lenG_ok hop hcal hargs htys h hS hT
    · rename_i d t hcal hargs htys
      exact clear_ok hop hcal hargs htys h hS hT
    · rename_i d s t tx hcal hargs htys
      exact copy_ok hop hcal hargs htys h hS hT
    · exact opPure_ok h hS hT
  · exact opPure_ok h hS hT
end
end Go.Proofs.Ytjofhegodknmaaa.V
