/- The law of sizes: numbers and lists of them. Mine. -/
import Derived.Test.YtjmfkfmcigdgbaaGreatSayScal
import Derived.Test.YtjmfkfmcigdgbaaGreatV26
set_option linter.unusedVariables false
set_option linter.unusedSimpArgs false
namespace Go.Proofs.YtjmfkfmcigdgbaaGreat.Say
open Go Go.RowKit
open V (D)

noncomputable def cL : Code := match Tryz.f3.body with
  | some c => c
  | none => .skip
noncomputable def l0 : Code := cf cL
noncomputable def l1 : Code := cf (cs cL)
noncomputable def l3 : Code := cf (cs (cs cL))
noncomputable def l4 : Code := cf (cs (cs (cs cL)))
noncomputable def l5 : Code := cf (cs (cs (cs (cs cL))))
noncomputable def l6 : Code := cf (cs (cs (cs (cs (cs cL)))))
noncomputable def l7 : Code := cf (cf (cs (cs (cs (cs (cs (cs cL)))))))
noncomputable def lLp : Code := cb (cb (cs (cf (cs (cs (cs (cs (cs (cs cL)))))))))
noncomputable def lTl : Code := cs (cs (cs (cs (cs (cs (cs cL))))))
noncomputable def l8 : Code := cf lLp
noncomputable def lB : Code := cb (cf (cs lLp))
noncomputable def l9 : Code := cs (cs lLp)
noncomputable def l10 : Code := cf lB
noncomputable def l11 : Code := cf (cs lB)
noncomputable def l12 : Code := cf (cs (cs lB))
noncomputable def lC : Code := cs (cs (cs lB))
noncomputable def l15 : Code := cf lC
noncomputable def l16 : Code := cf (cf (cs lC))
noncomputable def lIn : Code := cb (cb (cs (cf (cs lC))))
noncomputable def lD : Code := cs (cs lC)
noncomputable def l17 : Code := cf (cf lIn)
noncomputable def l19 : Code := cb (cf (cs lIn))
noncomputable def l18 : Code := cs (cs lIn)
theorem bodyL : Tryz.f3.body = some cL := by kernel_rfl
theorem shapeL : cL = .seq l0 (.seq l1 (.seq l3 (.seq l4 (.seq l5 (.seq l6 (.seq (.seq l7 (.block 0 (.loop lLp))) lTl)))))) := by kernel_rfl
theorem shapeLp : lLp = .seq l8 (.seq (.block 1 (.seq l10 (.seq l11 (.seq l12 (.seq l15 (.seq (.seq l16 (.block 2 (.loop lIn))) lD)))))) l9) := by kernel_rfl
theorem shapeIn : lIn = .seq (.seq l17 (.cond (.tmp 59) .skip (.exit 2))) (.seq (.block 3 l19) l18) := by kernel_rfl
theorem regsL : V.Regs l0 ∧ V.Regs l1 ∧ V.Regs l3 ∧ V.Regs l4 ∧ V.Regs l5 ∧ V.Regs l6 ∧ (V.Regs l7 ∧ V.Regs lLp) ∧ V.Regs lTl := by
  have h := regs 3 Tryz.f3 cL Tryz.func3 bodyL
  rw [shapeL] at h
  exact h
theorem regsLp' : V.Regs l8 ∧ (V.Regs l10 ∧ V.Regs l11 ∧ V.Regs l12 ∧ V.Regs l15 ∧ (V.Regs l16 ∧ V.Regs lIn) ∧ V.Regs lD) ∧ V.Regs l9 := by
  have h := regsL.2.2.2.2.2.2.1.2
  rw [shapeLp] at h
  exact h
theorem regsIn : (V.Regs l17 ∧ V.Regs .skip ∧ V.Regs (.exit 2)) ∧ V.Regs l19 ∧ V.Regs l18 := by
  have h := regsLp'.2.1.2.2.2.2.1.2
  rw [shapeIn] at h
  exact h
theorem eL17 : l17 = .region 17 (ops l17) false := by kernel_rfl
theorem eL18 : l18 = .region 18 (ops l18) false := by kernel_rfl
theorem eL19 : l19 = .region 19 (ops l19) false := by kernel_rfl
theorem rowV : V.RowT Tryz.prog 27 29 5 80 true := ⟨by kernel_rfl, by kernel_rfl, by kernel_rfl, by kernel_rfl, by decide, by decide⟩
theorem isRowV : V.isRowT Tryz.prog 27 = true := by kernel_rfl

/-! States. -/
def kindAt : Nat → Int
  | 0 => 2
  | 1 => 3
  | 2 => 6
  | 3 => 8
  | 4 => 10
  | _ => 4
def stL : V.Store := [(24, ⟨9, 1, false, 0, false, [tx 2, tx 3, tx 6, tx 8, tx 10, tx 4].map .dat⟩), (40, ⟨3, 1, false, 0, false, [2, 3, 6, 8, 10, 4].map fun x => .dat (.int .i64 x)⟩), (56, ⟨3, 1, false, 0, false, [1, 1, 2, 4, 8, 8].map fun x => .dat (.int .i64 x)⟩), (80, ⟨26, 2, true, 0, false, [.dat (.int .i64 5), .dat (.int .i64 5000)]⟩)]
def SL (n mu i : D) : V.St := ⟨[.dat n, .dat mu, .junk, .junk, .junk, .own 24 0 0 6, .own 40 0 0 6, .own 56 0 0 6, .ptr 80 0 0, .dat i] ++ List.replicate 99 .junk, stL, 104⟩
def kL : List Bool := [true, true, false, false, false, true, true, true, true, true]
def obV (k n : D) : V.Obj := ⟨29, 5, true, 0, false, [.dat k, .dat n, .dat mt, .dat .nil, .dat .nil]⟩
def obW (l : V.U) : V.Obj := ⟨29, 5, true, 0, false, [.dat (.int .i64 15), .dat (.int .i64 0), .dat mt, l, .dat .nil]⟩
def SI (n mu i k b q : D) (t : V.U) (l : V.U) (more : V.Store) (nx : Nat) : V.St := ⟨[.dat n, .dat mu, .junk, .junk, .junk, .own 24 0 0 6, .own 40 0 0 6, .own 56 0 0 6, .ptr 80 0 0, .dat i, .ptr 184 0 0, .dat b, .dat (.int .i64 0), .ptr 368 0 0, .dat q] ++ List.replicate 44 .junk ++ [t] ++ List.replicate 49 .junk, stL ++ [(184, obV k n), (368, obW l)] ++ more, nx⟩
def kI : List Bool := [true, true, false, false, false, true, true, true, true, true, true, true, true, true, true]
def kI17 : List Bool := kI ++ List.replicate 44 false ++ [true]
def idsL : List Nat := [24, 40, 56, 80]
def idsI : List Nat := [24, 40, 56, 80, 184, 368]

/-! The inner loop. -/
/-- an object more, or none -/
structure More (n k : D) (l : V.U) (more : V.Store) (nx : Nat) : Prop where
  get : ∀ p ∈ more, V.getO (stL ++ [(184, obV k n), (368, obW l)] ++ more) p.1 = some p.2
  refs : ∀ p ∈ more, V.refsL p.2.cells = []
  led : (V.refs l).all (fun x => (idsI ++ more.map Prod.fst).contains x) = true
  lt : (idsI ++ more.map Prod.fst).all (fun x => decide (x < nx)) = true
theorem More.kept {n k : D} {l : V.U} {more : V.Store} {nx : Nat} (h : More n k l more nx) : V.AllKept (V.getO (stL ++ [(184, obV k n), (368, obW l)] ++ more)) (idsI ++ more.map Prod.fst) (stL ++ [(184, obV k n), (368, obW l)] ++ more) := by
  refine V.AllKept.cons rfl rfl (V.AllKept.cons rfl rfl (V.AllKept.cons rfl rfl (V.AllKept.cons rfl rfl (V.AllKept.cons rfl rfl (V.AllKept.cons rfl ?_ fun p hp => ⟨h.get p hp, by rw [h.refs p hp]; rfl⟩)))))
  simp only [obW, V.refsL, V.refs, List.nil_append, List.append_nil]
  exact h.led
theorem stAll (n k : D) (l : V.U) (more : V.Store) : (stL ++ [(184, obV k n), (368, obW l)] ++ more).all (fun p => (idsI ++ more.map Prod.fst).contains p.1) = true := by
  rw [List.all_eq_true]
  intro p hp
  rw [List.contains_iff_mem]
  have : p.1 ∈ (stL ++ [(184, obV k n), (368, obW l)] ++ more).map Prod.fst := List.mem_map.2 ⟨p, hp, rfl⟩
  have e : (stL ++ [(184, obV k n), (368, obW l)] ++ more).map Prod.fst = idsI ++ more.map Prod.fst := by simp [stL, idsI]
  rw [e] at this
  exact this
theorem stIds (n k : D) (l : V.U) (more : V.Store) : idsI ++ more.map Prod.fst = (stL ++ [(184, obV k n), (368, obW l)] ++ more).map Prod.fst := by simp [stL, idsI]
theorem in17 (n k : D) (m : Nat) (i b : D) (hm : m < 256) (q : Nat) (r : Bool) (hr : V.cmpI .lss (q : Int) (m : Int) = some r) {l : V.U} {more : V.Store} {nx : Nat} (h : More n k l more nx) :
    V.Run Tryz.prog l17 (SI n (.int .u8 m) i k b (.int .i64 q) .junk l more nx) .normal (SI n (.int .u8 m) i k b (.int .i64 q) (.dat (.bool r)) l more nx) := by
  have hc : IntKind.i64.wrap (m : Int) = m := by rw [V.wr_i64]; omega
  rw [eL17]
  have hs : V.Steps Tryz.prog anE (ops l17) nx 0 ⟨(SI n (.int .u8 m) i k b (.int .i64 q) .junk l more nx).tm, (SI n (.int .u8 m) i k b (.int .i64 q) .junk l more nx).st, nx + 8 * (ops l17).size⟩ ⟨(((((SI n (.int .u8 m) i k b (.int .i64 q) .junk l more nx).tm.set 56 (.dat (.int .i64 q))).set 57 (.dat (.int .u8 m))).set 58 (.dat (.int .i64 m))).set 59 (.dat (.bool r))), (SI n (.int .u8 m) i k b (.int .i64 q) .junk l more nx).st, nx + 8 * (ops l17).size⟩ := by
    apply V.Steps.auto; kernel_rfl; kernel_rfl; kernel_rfl; kernel_rfl
    apply V.Steps.auto; kernel_rfl; kernel_rfl; kernel_rfl; kernel_rfl
    apply V.Steps.op; kernel_rfl; kernel_rfl; kernel_rfl; exact ((V.st_conv (s := 5) (t := 3) (x := .tmp 57) (k := .u8) (j := .i64) (n := (m : Int)) (sd := .int .u8) (by kernel_rfl) (by kernel_rfl) (by kernel_rfl) (by kernel_rfl)))
    apply V.Steps.op; kernel_rfl; kernel_rfl; kernel_rfl; exact ((V.st_cmp (op := .lss) (x := .tmp 56) (y := .tmp 58) (k := .i64) (m := (q : Int)) (n := (m : Int)) (r := r) (by kernel_rfl) (by kernel_rfl) (by rw [hc]; kernel_rfl) hr))
    exact V.Steps.done (by kernel_rfl) (by rw [hc]; kernel_rfl)
  exact V.Run.weakL (V.Run.of_steps (goodE _) regs follows (by rw [← eL17]; exact regsIn.1.1) hs) (keep := kI17) (stIds n k l more) h.kept (by kernel_rfl) (stAll n k l more) h.lt (by kernel_rfl)
theorem in18 (n k : D) (mu i b : D) (q : Nat) (hq : q < 1000) {l : V.U} {more : V.Store} {nx : Nat} (h : More n k l more nx) :
    V.Run Tryz.prog l18 (SI n mu i k b (.int .i64 q) .junk l more nx) .normal (SI n mu i k b (.int .i64 ((q + 1 : Nat) : Int)) .junk l more nx) := by
  rw [eL18]
  have hs : V.Steps Tryz.prog anE (ops l18) nx 0 ⟨(SI n mu i k b (.int .i64 q) .junk l more nx).tm, (SI n mu i k b (.int .i64 q) .junk l more nx).st, nx + 8 * (ops l18).size⟩ ⟨((((SI n mu i k b (.int .i64 q) .junk l more nx).tm.set 60 (.dat (.int .i64 q))).set 61 (.dat (.int .i64 ((q + 1 : Nat) : Int)))).set 14 (.dat (.int .i64 ((q + 1 : Nat) : Int)))), (SI n mu i k b (.int .i64 q) .junk l more nx).st, nx + 8 * (ops l18).size⟩ := by
    apply V.Steps.auto; kernel_rfl; kernel_rfl; kernel_rfl; kernel_rfl
    apply V.Steps.op; kernel_rfl; kernel_rfl; kernel_rfl; exact ((V.st_ari (op := .add) (x := .tmp 60) (y := .const (.int .i64 1)) (k := .i64) (m := (q : Int)) (n := 1) (r := ((q + 1 : Nat) : Int)) (by kernel_rfl) (by kernel_rfl) (by kernel_rfl) (by simp only [V.ariI, V.wr_i64, Option.some.injEq]; omega)))
    apply V.Steps.auto; kernel_rfl; kernel_rfl; kernel_rfl; kernel_rfl
    exact V.Steps.done (by kernel_rfl) rfl
  exact V.Run.weakL (V.Run.of_steps (goodE _) regs follows (by rw [← eL18]; exact regsIn.2.2) hs) (keep := kI) (stIds n k l more) h.kept (by kernel_rfl) (stAll n k l more) h.lt (by kernel_rfl)
/-- a value's cells -/
def cv (n k : Int) : List D := [.int .i64 k, .int .i64 n, mt, .nil, .nil]
def rowB (gn : Nat) (n k : Int) (q : Nat) : V.Obj := ⟨29, 5, true, gn, false, (List.replicate q (cv n k)).flatten.map .dat⟩
theorem rowB_refs (gn : Nat) (n k : Int) (q : Nat) : V.refsL (rowB gn n k q).cells = [] := V.refsL_dats _
theorem rowB_len (gn : Nat) (n k : Int) (q : Nat) : q * 5 = (rowB gn n k q).cells.length := by
  simp only [rowB, List.length_map]
  rw [V.flatten_length (s := 5) (fun c hc => by rw [(List.mem_replicate.1 hc).2]; rfl), List.length_replicate]
theorem rowB_more (gn gn' : Nat) (n k : Int) (q : Nat) : (⟨29, 5, true, gn', false, (rowB gn n k q).cells ++ (cv n k).map .dat⟩ : V.Obj) = rowB gn' n k (q + 1) := by
  simp only [rowB, List.replicate_succ', List.flatten_append, List.map_append, List.flatten_cons, List.flatten_nil, List.append_nil]
/-- the list so far, and its row -/
def lq (q : Nat) : V.U :=
  match q with
  | 0 => .dat .nil
  | q + 1 => .own 424 q 0 (q + 1)
def mq (n k : Int) (q : Nat) : V.Store :=
  match q with
  | 0 => []
  | q + 1 => [(424, rowB q n k (q + 1))]
def nq (q : Nat) : Nat :=
  match q with
  | 0 => 392
  | _ + 1 => 1000
theorem moreQ (n k : Int) (q : Nat) : More (.int .i64 n) (.int .i64 k) (lq q) (mq n k q) (nq q) := by
  cases q with
  | zero => exact ⟨fun p hp => absurd hp (by simp [mq]), fun p hp => absurd hp (by simp [mq]), rfl, by kernel_rfl⟩
  | succ q =>
    refine ⟨fun p hp => ?_, fun p hp => ?_, rfl, by kernel_rfl⟩
    · simp only [mq, List.mem_cons, List.not_mem_nil, or_false] at hp
      subst hp
      rfl
    · simp only [mq, List.mem_cons, List.not_mem_nil, or_false] at hp
      subst hp
      exact rowB_refs _ _ _ _
/-- the row's growth -/
theorem in19a (n k : Int) (mu i b : D) (t : V.U) : V.Run Tryz.prog l19 (SI (.int .i64 n) mu i (.int .i64 k) b (.int .i64 0) t (.dat .nil) [] 392) .normal (SI (.int .i64 n) mu i (.int .i64 k) b (.int .i64 0) .junk (.own 424 0 0 1) [(424, rowB 0 n k 1)] 1000) := by
  rw [eL19]
  apply V.Run.stepsL (goodE _) regs follows (keep := kI) (ids := idsI ++ [424]) (nx := 1000) (by rw [← eL19]; exact regsIn.2.1)
  · apply V.Steps.auto; kernel_rfl; kernel_rfl; kernel_rfl; kernel_rfl
    apply V.Steps.auto; kernel_rfl; kernel_rfl; kernel_rfl; kernel_rfl
    apply V.Steps.auto; kernel_rfl; kernel_rfl; kernel_rfl; kernel_rfl
    apply V.Steps.auto; kernel_rfl; kernel_rfl; kernel_rfl; kernel_rfl
    apply V.Steps.auto; kernel_rfl; kernel_rfl; kernel_rfl; kernel_rfl
    apply V.Steps.auto; kernel_rfl; kernel_rfl; kernel_rfl; kernel_rfl
    apply V.Steps.auto; kernel_rfl; kernel_rfl; kernel_rfl; kernel_rfl
    exact V.Steps.done (by kernel_rfl) rfl
  · rfl
  · exact V.AllKept.cons (by kernel_rfl) rfl (V.AllKept.cons (by kernel_rfl) rfl (V.AllKept.cons (by kernel_rfl) rfl (V.AllKept.cons (by kernel_rfl) rfl (V.AllKept.cons (by kernel_rfl) rfl (V.AllKept.cons (by kernel_rfl) rfl (V.AllKept.cons (by kernel_rfl) rfl V.AllKept.nil))))))
  · kernel_rfl
  · kernel_rfl
  · kernel_rfl
  · kernel_rfl
theorem in19b (n k : Int) (mu i b : D) (t : V.U) (q : Nat) (hq : q < 1000) : V.Run Tryz.prog l19 (SI (.int .i64 n) mu i (.int .i64 k) b (.int .i64 ((q + 1 : Nat) : Int)) t (.own 424 q 0 (q + 1)) [(424, rowB q n k (q + 1))] 1000) .normal (SI (.int .i64 n) mu i (.int .i64 k) b (.int .i64 ((q + 1 : Nat) : Int)) .junk (.own 424 (q + 1) 0 (q + 2)) [(424, rowB (q + 1) n k (q + 2))] 1000) := by
  rw [eL19]
  apply V.Run.stepsL (goodE _) regs follows (keep := kI) (ids := idsI ++ [424]) (nx := 1000) (by rw [← eL19]; exact regsIn.2.1)
  · apply V.Steps.auto; kernel_rfl; kernel_rfl; kernel_rfl; kernel_rfl
    apply V.Steps.auto; kernel_rfl; kernel_rfl; kernel_rfl; kernel_rfl
    apply V.Steps.auto; kernel_rfl; kernel_rfl; kernel_rfl; kernel_rfl
    apply V.Steps.auto; kernel_rfl; kernel_rfl; kernel_rfl; kernel_rfl
    apply V.Steps.op; kernel_rfl; kernel_rfl; kernel_rfl; exact ((Eq.trans (b := V.opAppend Tryz.prog (V.getO (stL ++ [(184, obV (.int .i64 k) (.int .i64 n)), (368, obW (.own 424 q 0 (q + 1)))] ++ [(424, rowB q n k (q + 1)), (1024, rowB 0 n k 1)])) 1032 27 27 (.own 424 q 0 (q + 1)) (.own 1024 0 0 1)) (by kernel_rfl) (V.st_appendR (s := 5) (xs := (cv n k).map .dat) (m := 1) (rd := [1024]) (ob := rowB q n k (q + 1)) rowV isRowV (by kernel_rfl) Nat.one_pos rfl rfl rfl rfl (rowB_len _ _ _ _) (by omega))))
    apply V.Steps.auto; kernel_rfl; kernel_rfl; kernel_rfl; kernel_rfl
    apply V.Steps.auto; kernel_rfl; kernel_rfl; kernel_rfl; kernel_rfl
    exact V.Steps.done (by kernel_rfl) rfl
  · rfl
  · exact V.AllKept.cons (by kernel_rfl) rfl (V.AllKept.cons (by kernel_rfl) rfl (V.AllKept.cons (by kernel_rfl) rfl (V.AllKept.cons (by kernel_rfl) rfl (V.AllKept.cons (by kernel_rfl) rfl (V.AllKept.cons (by kernel_rfl) rfl (V.AllKept.cons (ob := rowB (q + 1) n k (q + 2)) (Eq.trans (b := some ⟨29, 5, true, q + 1, false, (rowB q n k (q + 1)).cells ++ (cv n k).map .dat⟩) (by kernel_rfl) (congrArg some (rowB_more q (q + 1) n k (q + 1)))) (congrArg (fun l => List.all l _) (rowB_refs (q + 1) n k (q + 2))) V.AllKept.nil))))))
  · kernel_rfl
  · kernel_rfl
  · kernel_rfl
  · kernel_rfl
theorem inRound (n k : Int) (m : Nat) (i b : D) (hm : m < 256) (q : Nat) (hq : q < m) : V.Run Tryz.prog lIn (SI (.int .i64 n) (.int .u8 m) i (.int .i64 k) b (.int .i64 q) .junk (lq q) (mq n k q) (nq q)) .normal (SI (.int .i64 n) (.int .u8 m) i (.int .i64 k) b (.int .i64 ((q + 1 : Nat) : Int)) .junk (lq (q + 1)) (mq n k (q + 1)) (nq (q + 1))) := by
  have r17 := in17 (.int .i64 n) (.int .i64 k) m i b hm q true (V.c_lssT (by omega)) (moreQ n k q)
  have rc : V.Run Tryz.prog (.cond (.tmp 59) .skip (.exit 2)) (SI (.int .i64 n) (.int .u8 m) i (.int .i64 k) b (.int .i64 q) (.dat (.bool true)) (lq q) (mq n k q) (nq q)) .normal _ := V.Run.cond_true rfl (V.Run.skip (goodE V.sig0) regs follows)
  have r18 := in18 (.int .i64 n) (.int .i64 k) (.int .u8 m) i b q (by omega) (moreQ n k (q + 1))
  have r19 : V.Run Tryz.prog l19 (SI (.int .i64 n) (.int .u8 m) i (.int .i64 k) b (.int .i64 q) (.dat (.bool true)) (lq q) (mq n k q) (nq q)) .normal (SI (.int .i64 n) (.int .u8 m) i (.int .i64 k) b (.int .i64 q) .junk (lq (q + 1)) (mq n k (q + 1)) (nq (q + 1))) := by
    cases q with
    | zero => exact in19a n k (.int .u8 m) i b (.dat (.bool true))
    | succ q => exact in19b n k (.int .u8 m) i b (.dat (.bool true)) q (by omega)
  rw [shapeIn]
  exact V.Run.seq (V.Run.seq r17 rc) (V.Run.seq (V.Run.block (id := 3) r19) r18)
theorem inLoop (n k : Int) (m : Nat) (i b : D) (hm : m < 256) : ∀ j q : Nat, q + j = m → V.LRun Tryz.prog lIn (SI (.int .i64 n) (.int .u8 m) i (.int .i64 k) b (.int .i64 q) .junk (lq q) (mq n k q) (nq q)) (.exit 2) (SI (.int .i64 n) (.int .u8 m) i (.int .i64 k) b (.int .i64 m) (.dat (.bool false)) (lq m) (mq n k m) (nq m)) := by
  intro j
  induction j with
  | zero =>
    intro q hq
    obtain rfl : q = m := by omega
    have r17 := in17 (.int .i64 n) (.int .i64 k) q i b hm q false (V.c_lssF (by omega)) (moreQ n k q)
    have rc : V.Run Tryz.prog (.cond (.tmp 59) .skip (.exit 2)) (SI (.int .i64 n) (.int .u8 q) i (.int .i64 k) b (.int .i64 q) (.dat (.bool false)) (lq q) (mq n k q) (nq q)) (.exit 2) _ := V.Run.cond_false rfl (V.Run.exit (goodE V.sig0) regs follows)
    rw [shapeIn]
    exact V.LRun.out (V.Run.seq_out (V.Run.seq r17 rc) (by simp)) (by simp)
  | succ j ih =>
    intro q hq
    exact V.LRun.step (inRound n k m i b hm q (by omega)) (ih (q + 1) (by omega))
theorem mapM_five {f : V.U → Option (D × List Nat)} {a b c d e : V.U} {a' b' c' d' e' : D × List Nat} (h1 : f a = some a') (h2 : f b = some b') (h3 : f c = some c') (h4 : f d = some d') (h5 : f e = some e') : [a, b, c, d, e].mapM f = some [a', b', c', d', e'] := by
  simp [List.mapM_cons, h1, h2, h3, h4, h5]
theorem mapM_six {f : Nat → Option ((Nat × V.Obj) × List Nat)} {a b c d e i : Nat} {a' b' c' d' e' i' : (Nat × V.Obj) × List Nat} (h1 : f a = some a') (h2 : f b = some b') (h3 : f c = some c') (h4 : f d = some d') (h5 : f e = some e') (h6 : f i = some i') : [a, b, c, d, e, i].mapM f = some [a', b', c', d', e', i'] := by
  simp [List.mapM_cons, h1, h2, h3, h4, h5, h6]
/-- the list's row, as data -/
theorem dataQ (n k : Int) (m : Nat) (g : Nat → Option V.Obj) (hg : ∀ p ∈ mq n k m, g p.1 = some p.2) : ∃ rd, V.toD g 40 (lq m) = some (rl k n m, rd) ∧ rd.all (fun x => !idsI.contains x) = true := by
  cases m with
  | zero => exact ⟨[], rfl, rfl⟩
  | succ m =>
    refine ⟨[424], ?_, rfl⟩
    have h := V.toD_rowR (g := g) (k := 38) (o := 424) (gn := m) (s := 5) (ob := rowB m n k (m + 1)) (css := List.replicate (m + 1) (cv n k)) (hg (424, rowB m n k (m + 1)) (by simp [mq])) rfl rfl rfl (by decide) rfl (fun c hc => by rw [(List.mem_replicate.1 hc).2]; rfl)
    rw [List.length_replicate, List.map_replicate] at h
    exact h
theorem inAll (n k : Int) (m : Nat) (i b : D) (hm : m < 256) : V.Run Tryz.prog (.block 2 (.loop lIn)) (SI (.int .i64 n) (.int .u8 m) i (.int .i64 k) b (.int .i64 0) .junk (.dat .nil) [] 392) .normal (SI (.int .i64 n) (.int .u8 m) i (.int .i64 k) b (.int .i64 m) .junk (.dat (rl k n m)) [] 1000) := by
  have h := V.Run.block_to (id := 2) (V.Run.loop (inLoop n k m i b hm m 0 (by omega)))
  obtain ⟨rd, hd, hr⟩ := dataQ n k m (V.getO (SI (.int .i64 n) (.int .u8 m) i (.int .i64 k) b (.int .i64 m) (.dat (.bool false)) (lq m) (mq n k m) (nq m)).st) (fun p hp => by
    have := (moreQ n k m).get p hp
    exact this)
  have h184 : V.dataO (V.getO (SI (.int .i64 n) (.int .u8 m) i (.int .i64 k) b (.int .i64 m) (.dat (.bool false)) (lq m) (mq n k m) (nq m)).st) 184 = some ((184, obV (.int .i64 k) (.int .i64 n)), []) := V.dataO_of (ob := obV (.int .i64 k) (.int .i64 n)) (cs := [(.int .i64 k, []), (.int .i64 n, []), (mt, []), (.nil, []), (.nil, [])]) rfl (mapM_five rfl rfl rfl rfl rfl)
  refine V.Run.dataL h (ids := idsI) (keep := kI) (nx := 1000) (l := [((24, ⟨9, 1, false, 0, false, [tx 2, tx 3, tx 6, tx 8, tx 10, tx 4].map .dat⟩), []), ((40, ⟨3, 1, false, 0, false, [2, 3, 6, 8, 10, 4].map fun x => .dat (.int .i64 x)⟩), []), ((56, ⟨3, 1, false, 0, false, [1, 1, 2, 4, 8, 8].map fun x => .dat (.int .i64 x)⟩), []), ((80, ⟨26, 2, true, 0, false, [.dat (.int .i64 5), .dat (.int .i64 5000)]⟩), []), ((184, obV (.int .i64 k) (.int .i64 n)), []), ((368, obW (.dat (rl k n m))), rd)])
    (mapM_six (by kernel_rfl) (by kernel_rfl) (by kernel_rfl) (by kernel_rfl) h184 ?_) ?_ (by kernel_rfl) (by kernel_rfl) (by kernel_rfl) (by kernel_rfl) (by kernel_rfl)
  · have h1 := V.dataO_of (g := V.getO (SI (.int .i64 n) (.int .u8 m) i (.int .i64 k) b (.int .i64 m) (.dat (.bool false)) (lq m) (mq n k m) (nq m)).st) (o := 368) (ob := obW (lq m)) rfl (mapM_five (a' := (.int .i64 15, [])) (b' := (.int .i64 0, [])) (c' := (mt, [])) (e' := (.nil, [])) rfl rfl rfl hd rfl)
    rw [h1]
    simp only [List.map_cons, List.map_nil, List.flatMap_cons, List.flatMap_nil, List.nil_append, List.append_nil]
    rfl
  · simp only [List.flatMap_cons, List.flatMap_nil, List.nil_append, List.append_nil]
    exact hr

/-! What is around it. 2: the number; 4: the list; 60: how many; 61: the number's bytes; 62: how many, as an int; 65: the list's bytes; 66: so many; 68: how many times the size. -/
def su (k n : Int) (m : Nat) : Nat → D
  | 2 => .int .i64 n
  | 4 => rl k n m
  | 60 => .int .u8 m
  | 61 => .lst (sb k n)
  | 62 => .int .i64 m
  | 65 => .lst (lb k n m)
  | 66 => .int .i64 ((5 + m * wd k : Nat) : Int)
  | 68 => .int .i64 ((m * wd k : Nat) : Int)
  | _ => .nil
theorem plainSu (k n : Int) (m : Nat) : V.Plain (su k n m) := by
  constructor
  · intro j
    unfold su
    split <;> first | rfl | exact oneRl _ _ _
  · intro j
    unfold su
    split
    · rfl
    · exact noRl _ _ _
    · rfl
    · exact sb_no _ _
    · rfl
    · exact noGrow _ _ _ _ (bts0 k m).no
    · rfl
    · rfl
    · rfl
def idx : List Nat := [0, 1, 2, 3, 4, 5]
theorem kindIn (i : Nat) : kindAt i ∈ kinds := by unfold kindAt; split <;> decide
def tA (k : Int) : V.Tbl := (6, [([sch, tx k, nv k, lim], [.sym 61, .int .i64 0])]) :: (7, [([.int .i64 k, .sym 2], [.bool true])]) :: t3
def tB (k : Int) : V.Tbl := (6, [([sch, tx k, nv k, lim], [.nil, .int .i64 1])]) :: (7, [([.int .i64 k, .sym 2], [.bool false])]) :: t3
def tC (k : Int) : V.Tbl := [(6, [([sch, lt k, wn, lim], [.sym 65, .int .i64 0])])]
def aA (k : Int) : V.An := { an3 with spec := V.inTbl (tA k) }
def aBn (k : Int) : V.An := { an3 with spec := V.inTbl (tB k) }
def fD (k : Int) : List V.Fact := [.conv 5 3 (.sym 60) (.sym 62), .ari .mul (.sym 62) (.int .i64 (wd k)) (.sym 68), .ari .add (.int .i64 5) (.sym 68) (.sym 66), .cmp .neq (.sym 66) (.sym 66) false]
def gD (k : Int) : List V.Gact := [.len 30 (.sym 61) (.int .i64 (wd k)), .len 30 (.sym 65) (.sym 66)]
def aDl (k : Int) : V.An := { an3 with spec := V.inTbl (tC k), orc := V.orcOr (V.orcOf (fD k)) (V.orcG (gD k)) }
def zL : V.St := ⟨[.dat (.sym 2), .dat (.sym 60)] ++ List.replicate 107 .undef, [], 0⟩
noncomputable def zX0 (k : Int) (i : Nat) : V.St := nd (V.exec Tryz.prog (aA k) 400 l8 (SL (.sym 2) (.sym 60) (.int .i64 i)))
noncomputable def zX1 (k : Int) (i : Nat) : V.St := nd (V.exec Tryz.prog (aA k) 400 l10 (zX0 k i))
noncomputable def zX2 (k : Int) (i : Nat) : V.St := nd (V.exec Tryz.prog (aA k) 400 l11 (zX1 k i))
noncomputable def zX3 (k : Int) (i : Nat) : V.St := nd (V.exec Tryz.prog (aA k) 400 l12 (zX2 k i))
noncomputable def zX4 (k : Int) (i : Nat) : V.St := nd (V.exec Tryz.prog (aA k) 400 l15 (zX3 k i))
set_option maxRecDepth 1000000 in
theorem runX : ∀ i ∈ idx, V.exec Tryz.prog (aA (kindAt i)) 400 l8 (SL (.sym 2) (.sym 60) (.int .i64 i)) = some (.normal, zX0 (kindAt i) i) ∧ V.exec Tryz.prog (aA (kindAt i)) 400 l10 (zX0 (kindAt i) i) = some (.normal, zX1 (kindAt i) i) ∧ V.exec Tryz.prog (aA (kindAt i)) 400 l11 (zX1 (kindAt i) i) = some (.normal, zX2 (kindAt i) i) := by
  intro i hi
  simp only [idx, List.mem_cons, List.not_mem_nil, or_false] at hi
  rcases hi with rfl | rfl | rfl | rfl | rfl | rfl
  all_goals exact ⟨by kernel_rfl, by kernel_rfl, by kernel_rfl⟩
set_option maxRecDepth 1000000 in
theorem runX' : ∀ i ∈ idx, V.exec Tryz.prog (aA (kindAt i)) 400 l12 (zX2 (kindAt i) i) = some (.normal, zX3 (kindAt i) i) ∧ V.exec Tryz.prog (aA (kindAt i)) 400 l15 (zX3 (kindAt i) i) = some (.normal, zX4 (kindAt i) i) ∧ V.uptoD Tryz.prog (aA (kindAt i)) 400 l16 (zX4 (kindAt i) i) idsI kI 392 = some (.normal, SI (.sym 2) (.sym 60) (.int .i64 i) (.int .i64 (kindAt i)) (.sym 61) (.int .i64 0) .junk (.dat .nil) [] 392) := by
  intro i hi
  simp only [idx, List.mem_cons, List.not_mem_nil, or_false] at hi
  rcases hi with rfl | rfl | rfl | rfl | rfl | rfl
  all_goals exact ⟨by kernel_rfl, by kernel_rfl, by kernel_rfl⟩
set_option maxRecDepth 1000000 in
theorem runNo : ∀ i ∈ idx, V.uptoD Tryz.prog (aBn (kindAt i)) 400 lLp (SL (.sym 2) (.sym 60) (.int .i64 i)) idsL kL 104 = some (.normal, SL (.sym 2) (.sym 60) (.int .i64 ((i + 1 : Nat) : Int))) := by
  intro i hi
  simp only [idx, List.mem_cons, List.not_mem_nil, or_false] at hi
  rcases hi with rfl | rfl | rfl | rfl | rfl | rfl
  all_goals kernel_rfl
set_option maxRecDepth 1000000 in
theorem runEnd : ∀ i ∈ idx, V.uptoD Tryz.prog (aDl (kindAt i)) 400 lD (SI (.sym 2) (.sym 60) (.int .i64 i) (.int .i64 (kindAt i)) (.sym 61) (.sym 62) .junk (.dat (.sym 4)) [] 1000) idsI kI 1000 = some (.normal, SI (.sym 2) (.sym 60) (.int .i64 i) (.int .i64 (kindAt i)) (.sym 61) (.sym 62) .junk (.dat (.sym 4)) [] 1000) := by
  intro i hi
  simp only [idx, List.mem_cons, List.not_mem_nil, or_false] at hi
  rcases hi with rfl | rfl | rfl | rfl | rfl | rfl
  all_goals kernel_rfl
set_option maxRecDepth 1000000 in
theorem runNext : ∀ i ∈ idx, V.uptoD Tryz.prog an3 400 l9 (SI (.sym 2) (.sym 60) (.int .i64 i) (.int .i64 (kindAt i)) (.sym 61) (.sym 62) .junk (.dat (.sym 4)) [] 1000) idsI kI 1000 = some (.normal, SI (.sym 2) (.sym 60) (.int .i64 ((i + 1 : Nat) : Int)) (.int .i64 (kindAt i)) (.sym 61) (.sym 62) .junk (.dat (.sym 4)) [] 1000) := by
  intro i hi
  simp only [idx, List.mem_cons, List.not_mem_nil, or_false] at hi
  rcases hi with rfl | rfl | rfl | rfl | rfl | rfl
  all_goals kernel_rfl
set_option maxRecDepth 1000000 in
theorem runOut : V.uptoD Tryz.prog an3 400 lLp (SL (.sym 2) (.sym 60) (.int .i64 6)) idsL kL 104 = some (.exit 0, SL (.sym 2) (.sym 60) (.int .i64 6)) := by kernel_rfl
noncomputable def zB0 : V.St := nd (V.exec Tryz.prog an3 400 l0 zL)
noncomputable def zB1 : V.St := nd (V.exec Tryz.prog an3 400 l1 zB0)
noncomputable def zB3 : V.St := nd (V.exec Tryz.prog an3 400 l3 zB1)
noncomputable def zB4 : V.St := nd (V.exec Tryz.prog an3 400 l4 zB3)
noncomputable def zB5 : V.St := nd (V.exec Tryz.prog an3 400 l5 zB4)
noncomputable def zB6 : V.St := nd (V.exec Tryz.prog an3 400 l6 zB5)
set_option maxRecDepth 1000000 in
theorem runB : V.exec Tryz.prog an3 400 l0 zL = some (.normal, zB0) ∧ V.exec Tryz.prog an3 400 l1 zB0 = some (.normal, zB1) ∧ V.exec Tryz.prog an3 400 l3 zB1 = some (.normal, zB3) ∧ V.exec Tryz.prog an3 400 l4 zB3 = some (.normal, zB4) ∧ V.exec Tryz.prog an3 400 l5 zB4 = some (.normal, zB5) ∧ V.exec Tryz.prog an3 400 l6 zB5 = some (.normal, zB6) ∧ V.uptoD Tryz.prog an3 400 l7 zB6 idsL kL 104 = some (.normal, SL (.sym 2) (.sym 60) (.int .i64 0)) :=
  ⟨by kernel_rfl, by kernel_rfl, by kernel_rfl, by kernel_rfl, by kernel_rfl, by kernel_rfl, by kernel_rfl⟩
noncomputable def zT : V.St := nd (V.exec Tryz.prog an3 400 lTl (SL (.sym 2) (.sym 60) (.int .i64 6)))
set_option maxRecDepth 1000000 in
theorem runT : V.exec Tryz.prog an3 400 lTl (SL (.sym 2) (.sym 60) (.int .i64 6)) = some (.ret, zT) := by kernel_rfl

theorem tblA {k n : Int} (m : Nat) {r : List D} {r' : List D} {t : Bool} (hr : V.inDs (su k n m) r = r') (h1 : @V.Holds V.sig0 Tryz.prog 6 [sch, tx k, vv k n, lim] r') (h2 : @V.Holds V.sig0 Tryz.prog 7 [.int .i64 k, .int .i64 n] [.bool t]) :
    @V.TblOk (V.sigOf (su k n m)) Tryz.prog ((6, [([sch, tx k, nv k, lim], r)]) :: (7, [([.int .i64 k, .sym 2], [.bool t])]) :: t3) := by
  have e : V.inDs (su k n m) [sch, tx k, nv k, lim] = [sch, tx k, vv k n, lim] := by
    simp only [V.inDs, V.inD_no _ _ (noTx k), sch, V.inD, nv, vv, lim]
    rfl
  have e2 : V.inDs (su k n m) [.int .i64 k, .sym 2] = [.int .i64 k, .int .i64 n] := rfl
  have g1 : @V.Holds (V.sigOf (su k n m)) Tryz.prog 6 [sch, tx k, nv k, lim] r := V.Holds.outs (plainSu k n m) (by rw [e, hr]; exact h1)
  have g2 : @V.Holds (V.sigOf (su k n m)) Tryz.prog 7 [.int .i64 k, .sym 2] [.bool t] := V.Holds.outs (plainSu k n m) (by rw [e2]; exact h2)
  exact @V.TblOk.cons (V.sigOf (su k n m)) _ _ _ _ (@V.RowOk.cons (V.sigOf (su k n m)) _ _ _ _ _ g1 (@V.RowOk.nil (V.sigOf (su k n m)) _ _)) (@V.TblOk.cons (V.sigOf (su k n m)) _ _ _ _ (@V.RowOk.cons (V.sigOf (su k n m)) _ _ _ _ _ g2 (@V.RowOk.nil (V.sigOf (su k n m)) _ _)) (@V.TblOk.any (V.sigOf (su k n m)) _ _ tno to3))
theorem goodA {k n : Int} (hk : k ∈ kinds) (h64 : IntKind.i64.wrap n = n) (hf : fits k n = true) (m : Nat) : @V.Good (V.sigOf (su k n m)) Tryz.prog (aA k) :=
  @V.Good.mk (V.sigOf (su k n m)) _ _ named (@V.spec_of_tbl (V.sigOf (su k n m)) _ _ (tblA m (r := [.sym 61, .int .i64 0]) (r' := [.lst (sb k n), .int .i64 0]) rfl (scalHolds hk (check0 hk h64 hf)) (by have := fitsHolds hk h64; rw [hf] at this; exact this))) (fun _ _ _ _ h => nomatch h) (@V.call_none (V.sigOf (su k n m)) _ _ rfl)
theorem goodBn {k n : Int} (hk : k ∈ kinds) (h64 : IntKind.i64.wrap n = n) (hf : fits k n = false) (m : Nat) : @V.Good (V.sigOf (su k n m)) Tryz.prog (aBn k) :=
  @V.Good.mk (V.sigOf (su k n m)) _ _ named (@V.spec_of_tbl (V.sigOf (su k n m)) _ _ (tblA m (r := [.nil, .int .i64 1]) (r' := [.nil, .int .i64 1]) rfl (scalNo hk (checkNo hk h64 hf)) (by have := fitsHolds hk h64; rw [hf] at this; exact this))) (fun _ _ _ _ h => nomatch h) (@V.call_none (V.sigOf (su k n m)) _ _ rfl)
theorem goodDl {k n : Int} (hk : k ∈ kinds) (h64 : IntKind.i64.wrap n = n) (hf : fits k n = true) {m : Nat} (hm : m < 256) : @V.Good (V.sigOf (su k n m)) Tryz.prog (aDl k) := by
  have hw := wd_le k
  have hlt : m * wd k ≤ 256 * 8 := Nat.mul_le_mul (by omega) hw
  have e : V.inDs (su k n m) [sch, lt k, wn, lim] = [sch, lt k, wl k n m, lim] := by
    simp only [V.inDs, V.inD_no _ _ (noLt k), sch, V.inD, wn, wl, lim]
    rfl
  have h1 : @V.Holds (V.sigOf (su k n m)) Tryz.prog 6 [sch, lt k, wn, lim] [.sym 65, .int .i64 0] := V.Holds.outs (plainSu k n m) (by rw [e]; exact encHolds hk (check0 hk h64 hf) m (by omega))
  letI : V.Sig := V.sigOf (su k n m)
  refine @V.Good.mk (V.sigOf (su k n m)) _ _ named (V.spec_of_tbl (V.TblOk.cons (V.RowOk.cons h1 V.RowOk.nil) V.TblOk.nil)) (V.orc_both (fun f hf => ?_) (fun f hf => ?_) rfl) (V.call_none rfl)
  · simp only [fD, List.mem_cons, List.not_mem_nil, or_false] at hf
    rcases hf with rfl | rfl | rfl | rfl
    · have hc : IntKind.i64.wrap (m : Int) = m := by rw [V.wr_i64]; omega
      refine V.okv (k := .u8) (j := .i64) (n := m) Tryz.underlying5 rfl Tryz.underlying3 ?_
      rw [hc]
      rfl
    · refine V.oka (k := .i64) (m := m) (n := wd k) (r := ((m * wd k : Nat) : Int)) rfl rfl ?_ rfl
      simp only [V.ariI, V.wr_i64, Option.some.injEq]
      rw [← Int.natCast_mul]
      omega
    · exact V.oka (k := .i64) (m := 5) (n := ((m * wd k : Nat) : Int)) (r := ((5 + m * wd k : Nat) : Int)) rfl rfl (by simp only [V.ariI, V.wr_i64, Option.some.injEq]; omega) rfl
    · exact V.okc (k := .i64) (m := ((5 + m * wd k : Nat) : Int)) (n := ((5 + m * wd k : Nat) : Int)) rfl rfl (V.c_neqF rfl)
  · simp only [gD, List.mem_cons, List.not_mem_nil, or_false] at hf
    rcases hf with rfl | rfl
    · exact ⟨wd k, rfl, .inl ⟨⟨_, Tryz.underlying30⟩, .inr ⟨_, rfl, (sb_length k n).symm⟩⟩⟩
    · exact ⟨5 + m * wd k, rfl, .inl ⟨⟨_, Tryz.underlying30⟩, .inr ⟨_, rfl, (lb_length k n m).symm⟩⟩⟩
theorem inSL (k n : Int) (m : Nat) (i : Int) : V.inS (su k n m) (SL (.sym 2) (.sym 60) (.int .i64 i)) = SL (.int .i64 n) (.int .u8 m) (.int .i64 i) := by
  simp only [SL, stL, V.inS, V.inUs_eq, V.inSt, V.inO, List.map_append, List.map_cons, List.map_nil, V.inU, V.inD, List.map_replicate, V.inD_no _ _ (noTx _)]
  rfl
theorem inSI (k n : Int) (m : Nat) (i : Int) (q : D) (l : D) : V.inS (su k n m) (SI (.sym 2) (.sym 60) (.int .i64 i) (.int .i64 k) (.sym 61) q .junk (.dat l) [] 392) = SI (.int .i64 n) (.int .u8 m) (.int .i64 i) (.int .i64 k) (.lst (sb k n)) (V.inD (su k n m) q) .junk (.dat (V.inD (su k n m) l)) [] 392 := by
  simp only [SI, stL, obV, obW, mt, V.txt, V.inS, V.inUs_eq, V.inSt, V.inO, List.map_append, List.map_cons, List.map_nil, V.inU, V.inD, List.map_replicate, V.inD_no _ _ (noTx _)]
  rfl
theorem inSJ (k n : Int) (m : Nat) (i : Int) (q : D) (l : D) : V.inS (su k n m) (SI (.sym 2) (.sym 60) (.int .i64 i) (.int .i64 k) (.sym 61) q .junk (.dat l) [] 1000) = SI (.int .i64 n) (.int .u8 m) (.int .i64 i) (.int .i64 k) (.lst (sb k n)) (V.inD (su k n m) q) .junk (.dat (V.inD (su k n m) l)) [] 1000 := by
  simp only [SI, stL, obV, obW, mt, V.txt, V.inS, V.inUs_eq, V.inSt, V.inO, List.map_append, List.map_cons, List.map_nil, V.inU, V.inD, List.map_replicate, V.inD_no _ _ (noTx _)]
  rfl
theorem outRound (n : Int) (h64 : IntKind.i64.wrap n = n) (m : Nat) (hm : m < 256) (i : Nat) (hi : i ∈ idx) : V.Run Tryz.prog lLp (SL (.int .i64 n) (.int .u8 m) (.int .i64 i)) .normal (SL (.int .i64 n) (.int .u8 m) (.int .i64 ((i + 1 : Nat) : Int))) := by
  have hk := kindIn i
  have hP := plainSu (kindAt i) n m
  cases hf : fits (kindAt i) n with
  | false =>
    have r := V.Run.ins hP (@V.Run.of_uptoD (V.sigOf (su (kindAt i) n m)) _ _ (goodBn hk h64 hf m) regs follows _ _ _ _ _ _ _ _ regsL.2.2.2.2.2.2.1.2 (runNo i hi))
    rw [inSL, inSL] at r
    exact r
  | true =>
    obtain ⟨g8, ⟨g10, g11, g12, g15, ⟨g16, _⟩, gD⟩, g9⟩ := regsLp'
    obtain ⟨p8, p10, p11⟩ := runX i hi
    obtain ⟨p12, p15, p16⟩ := runX' i hi
    have ex : ∀ {c : Code} {s s' : V.St}, V.Regs c → V.exec Tryz.prog (aA (kindAt i)) 400 c s = some (.normal, s') → @V.Run V.sig0 Tryz.prog c (V.inS (su (kindAt i) n m) s) .normal (V.inS (su (kindAt i) n m) s') := fun hr h => V.Run.ins hP (@V.Run.of_exec (V.sigOf (su (kindAt i) n m)) _ _ (goodA hk h64 hf m) regs follows _ _ _ _ _ hr h)
    have r8 := ex g8 p8
    have r16 := V.Run.ins hP (@V.Run.of_uptoD (V.sigOf (su (kindAt i) n m)) _ _ (goodA hk h64 hf m) regs follows _ _ _ _ _ _ _ _ g16 p16)
    have rD := V.Run.ins hP (@V.Run.of_uptoD (V.sigOf (su (kindAt i) n m)) _ _ (goodDl hk h64 hf hm) regs follows _ _ _ _ _ _ _ _ gD (runEnd i hi))
    have r9 := V.Run.ins hP (@V.Run.of_uptoD (V.sigOf (su (kindAt i) n m)) _ _ (goodAny _) regs follows _ _ _ _ _ _ _ _ g9 (runNext i hi))
    rw [inSL] at r8
    rw [inSI] at r16
    rw [inSJ] at rD r9
    rw [inSJ] at r9
    have rL := inAll n (kindAt i) m (.int .i64 i) (.lst (sb (kindAt i) n)) hm
    have rAll := V.Run.seq r8 (V.Run.seq (V.Run.block (id := 1) (V.Run.seq (ex g10 p10) (V.Run.seq (ex g11 p11) (V.Run.seq (ex g12 p12) (V.Run.seq (ex g15 p15) (V.Run.seq (V.Run.seq r16 rL) rD)))))) r9)
    rw [← shapeLp] at rAll
    exact V.Run.weakL rAll (keep := kL) (ids := idsL) rfl (V.AllKept.cons (by kernel_rfl) rfl (V.AllKept.cons (by kernel_rfl) rfl (V.AllKept.cons (by kernel_rfl) rfl (V.AllKept.cons (by kernel_rfl) rfl V.AllKept.nil)))) (by kernel_rfl) (by kernel_rfl) (by kernel_rfl) (by kernel_rfl)
theorem outLoop (n : Int) (h64 : IntKind.i64.wrap n = n) (m : Nat) (hm : m < 256) : ∀ j i : Nat, i + j = 6 → V.LRun Tryz.prog lLp (SL (.int .i64 n) (.int .u8 m) (.int .i64 i)) (.exit 0) (SL (.int .i64 n) (.int .u8 m) (.int .i64 6)) := by
  intro j
  induction j with
  | zero =>
    intro i hi
    obtain rfl : i = 6 := by omega
    have r := V.Run.ins (plainSu 2 n m) (@V.Run.of_uptoD (V.sigOf (su 2 n m)) _ _ (goodAny _) regs follows _ _ _ _ _ _ _ _ regsL.2.2.2.2.2.2.1.2 runOut)
    rw [inSL] at r
    exact V.LRun.out r (by simp)
  | succ j ih =>
    intro i hi
    exact V.LRun.step (outRound n h64 m hm i (by simp only [idx, List.mem_cons, List.not_mem_nil, or_false]; omega)) (ih (i + 1) (by omega))
theorem whole (n : Int) (h64 : IntKind.i64.wrap n = n) (m : Nat) (hm : m < 256) : V.Run Tryz.prog cL ⟨[.dat (.int .i64 n), .dat (.int .u8 m)] ++ List.replicate 107 .undef, [], 0⟩ .ret (V.inS (su 2 n m) zT) := by
  have hP := plainSu 2 n m
  obtain ⟨g0, g1, g3, g4, g5, g6, ⟨g7, _⟩, gT⟩ := regsL
  obtain ⟨p0, p1, p3, p4, p5, p6, p7⟩ := runB
  have ex : ∀ {c : Code} {s s' : V.St} {x : V.X}, V.Regs c → V.exec Tryz.prog an3 400 c s = some (x, s') → @V.Run V.sig0 Tryz.prog c (V.inS (su 2 n m) s) x (V.inS (su 2 n m) s') := fun hr h => V.Run.ins hP (@V.Run.of_exec (V.sigOf (su 2 n m)) _ _ (goodAny _) regs follows _ _ _ _ _ hr h)
  have r7 := V.Run.ins hP (@V.Run.of_uptoD (V.sigOf (su 2 n m)) _ _ (goodAny _) regs follows _ _ _ _ _ _ _ _ g7 p7)
  have rT := ex gT runT
  rw [inSL] at r7 rT
  have rL := V.Run.block_to (id := 0) (V.Run.loop (outLoop n h64 m hm 6 0 (by omega)))
  rw [shapeL]
  exact V.Run.seq (ex g0 p0) (V.Run.seq (ex g1 p1) (V.Run.seq (ex g3 p3) (V.Run.seq (ex g4 p4) (V.Run.seq (ex g5 p5) (V.Run.seq (ex g6 p6) (V.Run.seq (V.Run.seq r7 rL) rT))))))
theorem TbinSizes (W : World) (a0 : Int) (a1 : Int) (w0 : (Lit.int .i64 a0).wf = true) (w1 : (Lit.int .u8 a1).wf = true) : Calls Tryz.prog 3 #[.int .i64 a0, .int .u8 a1] W (fun e W' => e = .returned (.bool true) ∧ Below W.heap.size W W') := by
  have b0 := V.wf_int w0
  have b1 := V.wf_int w1
  simp only [IntKind.min, IntKind.max, IntKind.signed, IntKind.bits, Bool.false_eq_true, if_false, if_true] at b0 b1
  obtain ⟨m, rfl⟩ : ∃ m : Nat, a1 = m := ⟨a1.toNat, by omega⟩
  exact V.law_of_run (us0 := [.dat (.int .i64 a0), .dat (.int .u8 m)]) Tryz.func3 bodyL (whole a0 (by rw [V.wr_i64]; omega) m (by omega)) (.inr rfl) (by kernel_rfl) (V.args_cons (.int _ _) (V.args_cons (.int _ _) V.args_nil))
end Go.Proofs.YtjmfkfmcigdgbaaGreat.Say
