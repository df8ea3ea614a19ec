/- The law of tcomp's sizes. Mine. -/
import Derived.Test.YtjmfkfmcigdgbaaGreatSayTcList
set_option linter.unusedVariables false
set_option linter.unusedSimpArgs false
namespace Go.Proofs.YtjmfkfmcigdgbaaGreat.Say
open Go Go.RowKit
open V (D)

noncomputable def yL : Code := match Tryz.f4.body with
  | some c => c
  | none => .skip
noncomputable def yj (n : Nat) (c : Code) : Code := match n with
  | 0 => c
  | n + 1 => yj n (cs c)
noncomputable def y0 : Code := cf yL
noncomputable def y1 : Code := cf (yj 1 yL)
noncomputable def y3 : Code := cf (yj 2 yL)
noncomputable def y4 : Code := cf (yj 3 yL)
noncomputable def y5 : Code := cf (yj 4 yL)
noncomputable def y9 : Code := cf (yj 5 yL)
noncomputable def y10 : Code := cf (yj 6 yL)
noncomputable def y11 : Code := cf (yj 7 yL)
noncomputable def y12 : Code := cf (cf (yj 8 yL))
noncomputable def yIn : Code := cb (cb (cs (cf (yj 8 yL))))
noncomputable def yR : Code := yj 9 yL
noncomputable def y13 : Code := cf (cf yIn)
noncomputable def y15 : Code := cb (cf (cs yIn))
noncomputable def y14 : Code := cs (cs yIn)
theorem bodyY : Tryz.f4.body = some yL := by kernel_rfl
theorem shapeY : yL = .seq y0 (.seq y1 (.seq y3 (.seq y4 (.seq y5 (.seq y9 (.seq y10 (.seq y11 (.seq (.seq y12 (.block 2 (.loop yIn))) yR)))))))) := by kernel_rfl
theorem shapeYn : yIn = .seq (.seq y13 (.cond (.tmp 57) .skip (.exit 2))) (.seq (.block 3 y15) y14) := by kernel_rfl
theorem regsY : V.Regs y0 ∧ V.Regs y1 ∧ V.Regs y3 ∧ V.Regs y4 ∧ V.Regs y5 ∧ V.Regs y9 ∧ V.Regs y10 ∧ V.Regs y11 ∧ (V.Regs y12 ∧ V.Regs yIn) ∧ V.Regs yR := by
  have h := regs 4 Tryz.f4 yL Tryz.func4 bodyY
  rw [shapeY] at h
  exact h
theorem regsYn : (V.Regs y13 ∧ V.Regs .skip ∧ V.Regs (.exit 2)) ∧ V.Regs y15 ∧ V.Regs y14 := by
  have h := regsY.2.2.2.2.2.2.2.2.1.2
  rw [shapeYn] at h
  exact h
theorem eY13 : y13 = .region 13 (ops y13) false := by kernel_rfl
theorem eY14 : y14 = .region 14 (ops y14) false := by kernel_rfl
theorem eY15 : y15 = .region 15 (ops y15) false := by kernel_rfl
theorem rowV : V.RowT Tryz.prog 27 29 5 80 true := ⟨by kernel_rfl, by kernel_rfl, by kernel_rfl, by kernel_rfl, by decide, by decide⟩
theorem isRowV : V.isRowT Tryz.prog 27 = true := by kernel_rfl
def stY : V.Store := [(32, ⟨26, 2, true, 0, false, [.dat (.int .i64 5), .dat (.int .i64 5000)]⟩)]
def obV (k n : D) : V.Obj := ⟨29, 5, true, 0, false, [.dat k, .dat n, .dat mt, .dat .nil, .dat .nil]⟩
def obW (l : V.U) : V.Obj := ⟨29, 5, true, 0, false, [.dat (.int .i64 15), .dat (.int .i64 0), .dat mt, l, .dat .nil]⟩
/-- i: the number's size; the number by itself is of 32 bits -/
def SJ (n mu i b q : D) (t : V.U) (l : V.U) (more : V.Store) (nx : Nat) : V.St := ⟨[.junk, .dat mu, .junk, .junk, .junk, .ptr 32 0 0, .dat i, .junk, .junk, .ptr 124 0 0, .dat b, .dat (.int .i64 0), .ptr 220 0 0, .dat q] ++ List.replicate 43 .junk ++ [t] ++ List.replicate 58 .junk, stY ++ [(124, obV (.int .i64 8) n), (220, obW l)] ++ more, nx⟩
def kJ : List Bool := [false, true, false, false, false, true, true, false, false, true, true, true, true, true]
def kJ13 : List Bool := kJ ++ List.replicate 43 false ++ [true]
def idsJ : List Nat := [32, 124, 220]

/-! The inner loop. -/
/-- an object more, or none -/
structure More (n : D) (l : V.U) (more : V.Store) (nx : Nat) : Prop where
  get : ∀ p ∈ more, V.getO (stY ++ [(124, obV (.int .i64 8) n), (220, obW l)] ++ more) p.1 = some p.2
  refs : ∀ p ∈ more, V.refsL p.2.cells = []
  led : (V.refs l).all (fun x => (idsJ ++ more.map Prod.fst).contains x) = true
  lt : (idsJ ++ more.map Prod.fst).all (fun x => decide (x < nx)) = true
theorem More.kept {n : D} {l : V.U} {more : V.Store} {nx : Nat} (h : More n l more nx) : V.AllKept (V.getO (stY ++ [(124, obV (.int .i64 8) n), (220, obW l)] ++ more)) (idsJ ++ more.map Prod.fst) (stY ++ [(124, obV (.int .i64 8) n), (220, obW l)] ++ more) := by
  refine V.AllKept.cons rfl rfl (V.AllKept.cons rfl rfl (V.AllKept.cons rfl ?_ fun p hp => ⟨h.get p hp, by rw [h.refs p hp]; rfl⟩))
  simp only [obW, V.refsL, V.refs, List.nil_append, List.append_nil]
  exact h.led
theorem stAll (n : D) (l : V.U) (more : V.Store) : (stY ++ [(124, obV (.int .i64 8) n), (220, obW l)] ++ more).all (fun p => (idsJ ++ more.map Prod.fst).contains p.1) = true := by
  rw [List.all_eq_true]
  intro p hp
  rw [List.contains_iff_mem]
  have : p.1 ∈ (stY ++ [(124, obV (.int .i64 8) n), (220, obW l)] ++ more).map Prod.fst := List.mem_map.2 ⟨p, hp, rfl⟩
  have e : (stY ++ [(124, obV (.int .i64 8) n), (220, obW l)] ++ more).map Prod.fst = idsJ ++ more.map Prod.fst := by simp [stY, idsJ]
  rw [e] at this
  exact this
theorem stIds (n : D) (l : V.U) (more : V.Store) : idsJ ++ more.map Prod.fst = (stY ++ [(124, obV (.int .i64 8) n), (220, obW l)] ++ more).map Prod.fst := by simp [stY, idsJ]
theorem in17 (n : D) (m : Nat) (i b : D) (hm : m < 256) (q : Nat) (r : Bool) (hr : V.cmpI .lss (q : Int) (m : Int) = some r) {l : V.U} {more : V.Store} {nx : Nat} (h : More n l more nx) :
    V.Run Tryz.prog y13 (SJ n (.int .u8 m) i b (.int .i64 q) .junk l more nx) .normal (SJ n (.int .u8 m) i b (.int .i64 q) (.dat (.bool r)) l more nx) := by
  have hc : IntKind.i64.wrap (m : Int) = m := by rw [V.wr_i64]; omega
  rw [eY13]
  have hs : V.Steps Tryz.prog anE (ops y13) nx 0 ⟨(SJ n (.int .u8 m) i b (.int .i64 q) .junk l more nx).tm, (SJ n (.int .u8 m) i b (.int .i64 q) .junk l more nx).st, nx + 8 * (ops y13).size⟩ ⟨(((((SJ n (.int .u8 m) i b (.int .i64 q) .junk l more nx).tm.set 54 (.dat (.int .i64 q))).set 55 (.dat (.int .u8 m))).set 56 (.dat (.int .i64 m))).set 57 (.dat (.bool r))), (SJ n (.int .u8 m) i b (.int .i64 q) .junk l more nx).st, nx + 8 * (ops y13).size⟩ := by
    apply V.Steps.auto; kernel_rfl; kernel_rfl; kernel_rfl; kernel_rfl
    apply V.Steps.auto; kernel_rfl; kernel_rfl; kernel_rfl; kernel_rfl
    apply V.Steps.op; kernel_rfl; kernel_rfl; kernel_rfl; exact ((V.st_conv (s := 5) (t := 3) (x := .tmp 55) (k := .u8) (j := .i64) (n := (m : Int)) (sd := .int .u8) (by kernel_rfl) (by kernel_rfl) (by kernel_rfl) (by kernel_rfl)))
    apply V.Steps.op; kernel_rfl; kernel_rfl; kernel_rfl; exact ((V.st_cmp (op := .lss) (x := .tmp 54) (y := .tmp 56) (k := .i64) (m := (q : Int)) (n := (m : Int)) (r := r) (by kernel_rfl) (by kernel_rfl) (by rw [hc]; kernel_rfl) hr))
    exact V.Steps.done (by kernel_rfl) (by rw [hc]; kernel_rfl)
  exact V.Run.weakL (V.Run.of_steps (goodE _) regs follows (by rw [← eY13]; exact regsYn.1.1) hs) (keep := kJ13) (stIds n l more) h.kept (by kernel_rfl) (stAll n l more) h.lt (by kernel_rfl)
theorem in18 (n : D) (mu i b : D) (q : Nat) (hq : q < 1000) {l : V.U} {more : V.Store} {nx : Nat} (h : More n l more nx) :
    V.Run Tryz.prog y14 (SJ n mu i b (.int .i64 q) .junk l more nx) .normal (SJ n mu i b (.int .i64 ((q + 1 : Nat) : Int)) .junk l more nx) := by
  rw [eY14]
  have hs : V.Steps Tryz.prog anE (ops y14) nx 0 ⟨(SJ n mu i b (.int .i64 q) .junk l more nx).tm, (SJ n mu i b (.int .i64 q) .junk l more nx).st, nx + 8 * (ops y14).size⟩ ⟨((((SJ n mu i b (.int .i64 q) .junk l more nx).tm.set 58 (.dat (.int .i64 q))).set 59 (.dat (.int .i64 ((q + 1 : Nat) : Int)))).set 13 (.dat (.int .i64 ((q + 1 : Nat) : Int)))), (SJ n mu i b (.int .i64 q) .junk l more nx).st, nx + 8 * (ops y14).size⟩ := by
    apply V.Steps.auto; kernel_rfl; kernel_rfl; kernel_rfl; kernel_rfl
    apply V.Steps.op; kernel_rfl; kernel_rfl; kernel_rfl; exact ((V.st_ari (op := .add) (x := .tmp 58) (y := .const (.int .i64 1)) (k := .i64) (m := (q : Int)) (n := 1) (r := ((q + 1 : Nat) : Int)) (by kernel_rfl) (by kernel_rfl) (by kernel_rfl) (by simp only [V.ariI, V.wr_i64, Option.some.injEq]; omega)))
    apply V.Steps.auto; kernel_rfl; kernel_rfl; kernel_rfl; kernel_rfl
    exact V.Steps.done (by kernel_rfl) rfl
  exact V.Run.weakL (V.Run.of_steps (goodE _) regs follows (by rw [← eY14]; exact regsYn.2.2) hs) (keep := kJ) (stIds n l more) h.kept (by kernel_rfl) (stAll n l more) h.lt (by kernel_rfl)
/-- a value's cells -/
def cv (n : Int) : List D := [.int .i64 8, .int .i64 n, mt, .nil, .nil]
def rowB (gn : Nat) (n : Int) (q : Nat) : V.Obj := ⟨29, 5, true, gn, false, (List.replicate q (cv n)).flatten.map .dat⟩
theorem rowB_refs (gn : Nat) (n : Int) (q : Nat) : V.refsL (rowB gn n q).cells = [] := V.refsL_dats _
theorem rowB_len (gn : Nat) (n : Int) (q : Nat) : q * 5 = (rowB gn n q).cells.length := by
  simp only [rowB, List.length_map]
  rw [V.flatten_length (s := 5) (fun c hc => by rw [(List.mem_replicate.1 hc).2]; rfl), List.length_replicate]
theorem rowB_more (gn gn' : Nat) (n : Int) (q : Nat) : (⟨29, 5, true, gn', false, (rowB gn n q).cells ++ (cv n).map .dat⟩ : V.Obj) = rowB gn' n (q + 1) := by
  simp only [rowB, List.replicate_succ', List.flatten_append, List.map_append, List.flatten_cons, List.flatten_nil, List.append_nil]
/-- the list so far, and its row -/
def lq (q : Nat) : V.U :=
  match q with
  | 0 => .dat .nil
  | q + 1 => .own 332 q 0 (q + 1)
def mq (n : Int) (q : Nat) : V.Store :=
  match q with
  | 0 => []
  | q + 1 => [(332, rowB q n (q + 1))]
def nq (q : Nat) : Nat :=
  match q with
  | 0 => 300
  | _ + 1 => 1000
theorem moreQ (n : Int) (q : Nat) : More (.int .i64 n) (lq q) (mq n q) (nq q) := by
  cases q with
  | zero => exact ⟨fun p hp => absurd hp (by simp [mq]), fun p hp => absurd hp (by simp [mq]), rfl, by kernel_rfl⟩
  | succ q =>
    refine ⟨fun p hp => ?_, fun p hp => ?_, rfl, by kernel_rfl⟩
    · simp only [mq, List.mem_cons, List.not_mem_nil, or_false] at hp
      subst hp
      rfl
    · simp only [mq, List.mem_cons, List.not_mem_nil, or_false] at hp
      subst hp
      exact rowB_refs _ _ _
/-- the row's growth -/
theorem in19a (n : Int) (mu i b : D) (t : V.U) : V.Run Tryz.prog y15 (SJ (.int .i64 n) mu i b (.int .i64 0) t (.dat .nil) [] 300) .normal (SJ (.int .i64 n) mu i b (.int .i64 0) .junk (.own 332 0 0 1) [(332, rowB 0 n 1)] 1000) := by
  rw [eY15]
  apply V.Run.stepsL (goodE _) regs follows (keep := kJ) (ids := idsJ ++ [332]) (nx := 1000) (by rw [← eY15]; exact regsYn.2.1)
  · apply V.Steps.auto; kernel_rfl; kernel_rfl; kernel_rfl; kernel_rfl
    apply V.Steps.auto; kernel_rfl; kernel_rfl; kernel_rfl; kernel_rfl
    apply V.Steps.auto; kernel_rfl; kernel_rfl; kernel_rfl; kernel_rfl
    apply V.Steps.auto; kernel_rfl; kernel_rfl; kernel_rfl; kernel_rfl
    apply V.Steps.auto; kernel_rfl; kernel_rfl; kernel_rfl; kernel_rfl
    apply V.Steps.auto; kernel_rfl; kernel_rfl; kernel_rfl; kernel_rfl
    apply V.Steps.auto; kernel_rfl; kernel_rfl; kernel_rfl; kernel_rfl
    exact V.Steps.done (by kernel_rfl) rfl
  · rfl
  · exact V.AllKept.cons (by kernel_rfl) rfl (V.AllKept.cons (by kernel_rfl) rfl (V.AllKept.cons (by kernel_rfl) rfl (V.AllKept.cons (by kernel_rfl) rfl V.AllKept.nil)))
  · kernel_rfl
  · kernel_rfl
  · kernel_rfl
  · kernel_rfl
theorem in19b (n : Int) (mu i b : D) (t : V.U) (q : Nat) (hq : q < 1000) : V.Run Tryz.prog y15 (SJ (.int .i64 n) mu i b (.int .i64 ((q + 1 : Nat) : Int)) t (.own 332 q 0 (q + 1)) [(332, rowB q n (q + 1))] 1000) .normal (SJ (.int .i64 n) mu i b (.int .i64 ((q + 1 : Nat) : Int)) .junk (.own 332 (q + 1) 0 (q + 2)) [(332, rowB (q + 1) n (q + 2))] 1000) := by
  rw [eY15]
  apply V.Run.stepsL (goodE _) regs follows (keep := kJ) (ids := idsJ ++ [332]) (nx := 1000) (by rw [← eY15]; exact regsYn.2.1)
  · apply V.Steps.auto; kernel_rfl; kernel_rfl; kernel_rfl; kernel_rfl
    apply V.Steps.auto; kernel_rfl; kernel_rfl; kernel_rfl; kernel_rfl
    apply V.Steps.auto; kernel_rfl; kernel_rfl; kernel_rfl; kernel_rfl
    apply V.Steps.auto; kernel_rfl; kernel_rfl; kernel_rfl; kernel_rfl
    apply V.Steps.op; kernel_rfl; kernel_rfl; kernel_rfl; exact ((Eq.trans (b := V.opAppend Tryz.prog (V.getO (stY ++ [(124, obV (.int .i64 8) (.int .i64 n)), (220, obW (.own 332 q 0 (q + 1)))] ++ [(332, rowB q n (q + 1)), (1024, rowB 0 n 1)])) 1032 27 27 (.own 332 q 0 (q + 1)) (.own 1024 0 0 1)) (by kernel_rfl) (V.st_appendR (s := 5) (xs := (cv n).map .dat) (m := 1) (rd := [1024]) (ob := rowB q n (q + 1)) rowV isRowV (by kernel_rfl) Nat.one_pos rfl rfl rfl rfl (rowB_len _ _ _) (by omega))))
    apply V.Steps.auto; kernel_rfl; kernel_rfl; kernel_rfl; kernel_rfl
    apply V.Steps.auto; kernel_rfl; kernel_rfl; kernel_rfl; kernel_rfl
    exact V.Steps.done (by kernel_rfl) rfl
  · rfl
  · exact V.AllKept.cons (by kernel_rfl) rfl (V.AllKept.cons (by kernel_rfl) rfl (V.AllKept.cons (by kernel_rfl) rfl (V.AllKept.cons (ob := rowB (q + 1) n (q + 2)) (Eq.trans (b := some ⟨29, 5, true, q + 1, false, (rowB q n (q + 1)).cells ++ (cv n).map .dat⟩) (by kernel_rfl) (congrArg some (rowB_more q (q + 1) n (q + 1)))) (congrArg (fun l => List.all l _) (rowB_refs (q + 1) n (q + 2))) V.AllKept.nil)))
  · kernel_rfl
  · kernel_rfl
  · kernel_rfl
  · kernel_rfl
theorem inRound (n : Int) (m : Nat) (i b : D) (hm : m < 256) (q : Nat) (hq : q < m) : V.Run Tryz.prog yIn (SJ (.int .i64 n) (.int .u8 m) i b (.int .i64 q) .junk (lq q) (mq n q) (nq q)) .normal (SJ (.int .i64 n) (.int .u8 m) i b (.int .i64 ((q + 1 : Nat) : Int)) .junk (lq (q + 1)) (mq n (q + 1)) (nq (q + 1))) := by
  have r17 := in17 (.int .i64 n) m i b hm q true (V.c_lssT (by omega)) (moreQ n q)
  have rc : V.Run Tryz.prog (.cond (.tmp 57) .skip (.exit 2)) (SJ (.int .i64 n) (.int .u8 m) i b (.int .i64 q) (.dat (.bool true)) (lq q) (mq n q) (nq q)) .normal _ := V.Run.cond_true rfl (V.Run.skip (goodE V.sig0) regs follows)
  have r18 := in18 (.int .i64 n) (.int .u8 m) i b q (by omega) (moreQ n (q + 1))
  have r19 : V.Run Tryz.prog y15 (SJ (.int .i64 n) (.int .u8 m) i b (.int .i64 q) (.dat (.bool true)) (lq q) (mq n q) (nq q)) .normal (SJ (.int .i64 n) (.int .u8 m) i b (.int .i64 q) .junk (lq (q + 1)) (mq n (q + 1)) (nq (q + 1))) := by
    cases q with
    | zero => exact in19a n (.int .u8 m) i b (.dat (.bool true))
    | succ q => exact in19b n (.int .u8 m) i b (.dat (.bool true)) q (by omega)
  rw [shapeYn]
  exact V.Run.seq (V.Run.seq r17 rc) (V.Run.seq (V.Run.block (id := 3) r19) r18)
theorem inLoop (n : Int) (m : Nat) (i b : D) (hm : m < 256) : ∀ j q : Nat, q + j = m → V.LRun Tryz.prog yIn (SJ (.int .i64 n) (.int .u8 m) i b (.int .i64 q) .junk (lq q) (mq n q) (nq q)) (.exit 2) (SJ (.int .i64 n) (.int .u8 m) i b (.int .i64 m) (.dat (.bool false)) (lq m) (mq n m) (nq m)) := by
  intro j
  induction j with
  | zero =>
    intro q hq
    obtain rfl : q = m := by omega
    have r17 := in17 (.int .i64 n) q i b hm q false (V.c_lssF (by omega)) (moreQ n q)
    have rc : V.Run Tryz.prog (.cond (.tmp 57) .skip (.exit 2)) (SJ (.int .i64 n) (.int .u8 q) i b (.int .i64 q) (.dat (.bool false)) (lq q) (mq n q) (nq q)) (.exit 2) _ := V.Run.cond_false rfl (V.Run.exit (goodE V.sig0) regs follows)
    rw [shapeYn]
    exact V.LRun.out (V.Run.seq_out (V.Run.seq r17 rc) (by simp)) (by simp)
  | succ j ih =>
    intro q hq
    exact V.LRun.step (inRound n m i b hm q (by omega)) (ih (q + 1) (by omega))
theorem mapM_five {f : V.U → Option (D × List Nat)} {a b c d e : V.U} {a' b' c' d' e' : D × List Nat} (h1 : f a = some a') (h2 : f b = some b') (h3 : f c = some c') (h4 : f d = some d') (h5 : f e = some e') : [a, b, c, d, e].mapM f = some [a', b', c', d', e'] := by
  simp [List.mapM_cons, h1, h2, h3, h4, h5]
theorem mapM_three {f : Nat → Option ((Nat × V.Obj) × List Nat)} {a b c : Nat} {a' b' c' : (Nat × V.Obj) × List Nat} (h1 : f a = some a') (h2 : f b = some b') (h3 : f c = some c') : [a, b, c].mapM f = some [a', b', c'] := by
  simp [List.mapM_cons, h1, h2, h3]
/-- the list's row, as data -/
theorem dataQ (n : Int) (m : Nat) (g : Nat → Option V.Obj) (hg : ∀ p ∈ mq n m, g p.1 = some p.2) : ∃ rd, V.toD g 40 (lq m) = some (rl 8 n m, rd) ∧ rd.all (fun x => !idsJ.contains x) = true := by
  cases m with
  | zero => exact ⟨[], rfl, rfl⟩
  | succ m =>
    refine ⟨[332], ?_, rfl⟩
    have h := V.toD_rowR (g := g) (k := 38) (o := 332) (gn := m) (s := 5) (ob := rowB m n (m + 1)) (css := List.replicate (m + 1) (cv n)) (hg (332, rowB m n (m + 1)) (by simp [mq])) rfl rfl rfl (by decide) rfl (fun c hc => by rw [(List.mem_replicate.1 hc).2]; rfl)
    rw [List.length_replicate, List.map_replicate] at h
    exact h
theorem inAll (n : Int) (m : Nat) (i b : D) (hm : m < 256) : V.Run Tryz.prog (.block 2 (.loop yIn)) (SJ (.int .i64 n) (.int .u8 m) i b (.int .i64 0) .junk (.dat .nil) [] 300) .normal (SJ (.int .i64 n) (.int .u8 m) i b (.int .i64 m) .junk (.dat (rl 8 n m)) [] 1000) := by
  have h := V.Run.block_to (id := 2) (V.Run.loop (inLoop n m i b hm m 0 (by omega)))
  obtain ⟨rd, hd, hr⟩ := dataQ n m (V.getO (SJ (.int .i64 n) (.int .u8 m) i b (.int .i64 m) (.dat (.bool false)) (lq m) (mq n m) (nq m)).st) (fun p hp => by
    have := (moreQ n m).get p hp
    exact this)
  have h184 : V.dataO (V.getO (SJ (.int .i64 n) (.int .u8 m) i b (.int .i64 m) (.dat (.bool false)) (lq m) (mq n m) (nq m)).st) 124 = some ((124, obV (.int .i64 8) (.int .i64 n)), []) := V.dataO_of (ob := obV (.int .i64 8) (.int .i64 n)) (cs := [(.int .i64 8, []), (.int .i64 n, []), (mt, []), (.nil, []), (.nil, [])]) rfl (mapM_five rfl rfl rfl rfl rfl)
  refine V.Run.dataL h (ids := idsJ) (keep := kJ) (nx := 1000) (l := [((32, ⟨26, 2, true, 0, false, [.dat (.int .i64 5), .dat (.int .i64 5000)]⟩), []), ((124, obV (.int .i64 8) (.int .i64 n)), []), ((220, obW (.dat (rl 8 n m))), rd)])
    (mapM_three (by kernel_rfl) h184 ?_) ?_ (by kernel_rfl) (by kernel_rfl) (by kernel_rfl) (by kernel_rfl) (by kernel_rfl)
  · have h1 := V.dataO_of (g := V.getO (SJ (.int .i64 n) (.int .u8 m) i b (.int .i64 m) (.dat (.bool false)) (lq m) (mq n m) (nq m)).st) (o := 220) (ob := obW (lq m)) rfl (mapM_five (a' := (.int .i64 15, [])) (b' := (.int .i64 0, [])) (c' := (mt, [])) (e' := (.nil, [])) rfl rfl rfl hd rfl)
    rw [h1]
    simp only [List.map_cons, List.map_nil, List.flatMap_cons, List.flatMap_nil, List.nil_append, List.append_nil]
    rfl
  · simp only [List.flatMap_cons, List.flatMap_nil, List.nil_append, List.append_nil]
    exact hr

/-! What is around it. 2: the number; 4: the list; 60: how many; 61: the number's bytes; 62: how many, as an int; 65: the list's bytes; 66: so many; 68: how many times the size; 70: the number, of 32 bits. -/
def hOf (m : Nat) : Nat := if m < 15 then 1 else if m < 128 then 2 else 3
def sy (n : Int) (m s : Nat) : Nat → D
  | 2 => .int .i64 n
  | 4 => rl 8 n m
  | 60 => .int .u8 m
  | 61 => .lst (cb1 s n)
  | 62 => .int .i64 m
  | 65 => .lst (cbs n m)
  | 66 => .int .i64 ((hOf m + m * s : Nat) : Int)
  | 68 => .int .i64 ((m * s : Nat) : Int)
  | 70 => .int .i32 n
  | _ => .nil
theorem plainSy (n : Int) (m s : Nat) (hm : m < 256) : V.Plain (sy n m s) := by
  constructor
  · intro j
    unfold sy
    split <;> first | rfl | exact oneRl _ _ _
  · intro j
    unfold sy
    split
    · rfl
    · exact noRl _ _ _
    · rfl
    · exact cb1_no _ _
    · rfl
    · exact gro_no _ _ _ (btsHd n m hm).no
    · rfl
    · rfl
    · rfl
    · rfl
def zY : V.St := ⟨[.dat (.sym 70), .dat (.sym 60)] ++ List.replicate 114 .undef, [], 0⟩
set_option maxRecDepth 1000000 in
theorem runBeg : V.tells Tryz.prog an3 400 8 [] [.bool true] = true := by kernel_rfl
def mapT : D := V.txt [109, 97, 112, 60, 105, 51, 50, 44, 105, 51, 50, 62]
def mapV : D := .agg [.int .i64 13, .int .i64 0, mt, .nil, .nil]
set_option maxRecDepth 1000000 in
theorem runMap : V.tells Tryz.prog an3 400 9 [sch, mapT, mapV, lim] [.lst [.int .u8 0], .int .i64 0] = true := by kernel_rfl
def tY : V.Tbl := (8, [([], [.bool true])]) :: (9, [([sch, tx 8, nv 8, lim], [.sym 61, .int .i64 0]), ([sch, lt 8, wn, lim], [.sym 65, .int .i64 0]), ([sch, mapT, mapV, lim], [.lst [.int .u8 0], .int .i64 0])]) :: t3
/-- less than nothing or not; how many rounds -/
def fSz (neg : Bool) : Nat → List V.Fact
  | 0 => []
  | j + 1 => fSz neg j ++ (if neg then [.cmp .lss (.sym 2) (.int .i64 (-((top (j + 1) + 1) / 2))) true] else [.cmp .lss (.sym 2) (.int .i64 (-((top (j + 1) + 1) / 2))) false, .cmp .gtr (.sym 2) (.int .i64 ((top (j + 1) - 1) / 2)) true])
def fSo (s : Nat) : List V.Fact := if s = 5 then [] else [.cmp .lss (.sym 2) (.int .i64 (-((top s + 1) / 2))) false, .cmp .gtr (.sym 2) (.int .i64 ((top s - 1) / 2)) false]
def fC70 : List V.Fact := [.conv 21 2 (.sym 70) (.sym 2)]
def aSz (neg : Bool) (s : Nat) : V.An := { an3 with spec := V.inTbl tY, orc := V.orcOf (fC70 ++ fSz neg (s - 1) ++ fSo s) }
def fR (s : Nat) (b1 b2 : Bool) : List V.Fact := [.cmp .geq (.sym 60) (.int .u8 15) b1, .cmp .geq (.sym 60) (.int .u8 128) b2, .conv 5 3 (.sym 60) (.sym 62), .ari .mul (.sym 62) (.int .i64 s) (.sym 68), .ari .add (.int .i64 (if b2 then 3 else if b1 then 2 else 1)) (.sym 68) (.sym 66), .cmp .eql (.sym 66) (.sym 66) true]
def gR (s : Nat) : List V.Gact := [.len 30 (.sym 61) (.int .i64 s), .len 30 (.sym 65) (.sym 66)]
def aR (s : Nat) (b1 b2 : Bool) : V.An := { an3 with spec := V.inTbl tY, orc := V.orcOr (V.orcOf (fR s b1 b2)) (V.orcG (gR s)) }
def aY : V.An := { an3 with spec := V.inTbl tY, orc := V.orcOf fC70 }
def YS (i : D) : V.St := ⟨[.dat (.sym 70), .dat (.sym 60), .junk, .junk, .junk, .ptr 32 0 0, .dat i] ++ List.replicate 109 .junk, stY, 100⟩
def kY : List Bool := [true, true, false, false, false, true, true]
noncomputable def zY0 : V.St := nd (V.exec Tryz.prog aY 400 y0 zY)
noncomputable def zY1 : V.St := nd (V.exec Tryz.prog aY 400 y1 zY0)
noncomputable def zY3 : V.St := nd (V.exec Tryz.prog aY 400 y3 zY1)
set_option maxRecDepth 1000000 in
theorem runY0 : V.exec Tryz.prog aY 400 y0 zY = some (.normal, zY0) ∧ V.exec Tryz.prog aY 400 y1 zY0 = some (.normal, zY1) ∧ V.exec Tryz.prog aY 400 y3 zY1 = some (.normal, zY3) ∧ V.uptoD Tryz.prog aY 400 y4 zY3 [32] kY 100 = some (.normal, YS (.int .i64 1)) :=
  ⟨by kernel_rfl, by kernel_rfl, by kernel_rfl, by kernel_rfl⟩
set_option maxRecDepth 1000000 in
theorem runY5 : ∀ neg : Bool, ∀ s ∈ szs, V.uptoD Tryz.prog (aSz neg s) 400 y5 (YS (.int .i64 1)) [32] kY 100 = some (.normal, YS (.int .i64 s)) := by
  intro neg s hs
  simp only [szs, List.mem_cons, List.not_mem_nil, or_false] at hs
  rcases hs with rfl | rfl | rfl | rfl | rfl <;> cases neg
  all_goals kernel_rfl
noncomputable def zY9 (s : Nat) : V.St := nd (V.exec Tryz.prog aY 400 y9 (YS (.int .i64 s)))
noncomputable def zY10 (s : Nat) : V.St := nd (V.exec Tryz.prog aY 400 y10 (zY9 s))
noncomputable def zY11 (s : Nat) : V.St := nd (V.exec Tryz.prog aY 400 y11 (zY10 s))
set_option maxRecDepth 1000000 in
theorem runY9 : ∀ s ∈ szs, V.exec Tryz.prog aY 400 y9 (YS (.int .i64 s)) = some (.normal, zY9 s) ∧ V.exec Tryz.prog aY 400 y10 (zY9 s) = some (.normal, zY10 s) ∧ V.exec Tryz.prog aY 400 y11 (zY10 s) = some (.normal, zY11 s) ∧ V.uptoD Tryz.prog aY 400 y12 (zY11 s) idsJ kJ 300 = some (.normal, SJ (.sym 2) (.sym 60) (.int .i64 s) (.sym 61) (.int .i64 0) .junk (.dat .nil) [] 300) := by
  intro s hs
  simp only [szs, List.mem_cons, List.not_mem_nil, or_false] at hs
  rcases hs with rfl | rfl | rfl | rfl | rfl
  all_goals exact ⟨by kernel_rfl, by kernel_rfl, by kernel_rfl, by kernel_rfl⟩
def clM : List (Bool × Bool) := [(false, false), (true, false), (true, true)]
noncomputable def zYR (s : Nat) (b1 b2 : Bool) : V.St := nd (V.exec Tryz.prog (aR s b1 b2) 400 yR (SJ (.sym 2) (.sym 60) (.int .i64 s) (.sym 61) (.sym 62) .junk (.dat (.sym 4)) [] 1000))
set_option maxRecDepth 1000000 in
theorem runYR : ∀ p ∈ clM, ∀ s ∈ szs, V.exec Tryz.prog (aR s p.1 p.2) 400 yR (SJ (.sym 2) (.sym 60) (.int .i64 s) (.sym 61) (.sym 62) .junk (.dat (.sym 4)) [] 1000) = some (.ret, zYR s p.1 p.2) ∧ (zYR s p.1 p.2).tm[4]? = some (.dat (.bool true)) := by
  intro p hp s hs
  simp only [szs, List.mem_cons, List.not_mem_nil, or_false] at hs
  simp only [clM, List.mem_cons, List.not_mem_nil, or_false] at hp
  rcases hp with rfl | rfl | rfl <;> rcases hs with rfl | rfl | rfl | rfl | rfl
  all_goals exact ⟨by kernel_rfl, by kernel_rfl⟩
end Go.Proofs.YtjmfkfmcigdgbaaGreat.Say
