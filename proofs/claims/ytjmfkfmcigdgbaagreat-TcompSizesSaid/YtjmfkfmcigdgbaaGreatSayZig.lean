/- zig.Put, whatever the bytes ahead: bytes, and a number's groups of seven bits behind them. Mine. -/
import Derived.Test.YtjmfkfmcigdgbaaGreatSayScal
import Derived.Test.YtjmfkfmcigdgbaaGreatV27
set_option linter.unusedVariables false
set_option linter.unusedSimpArgs false
namespace Go.Proofs.YtjmfkfmcigdgbaaGreat.Say
open Go Go.RowKit
open V (D)

/-! slices.Clone of bytes. -/
noncomputable def kA : Code := match Tryz.f128.body with
  | some c => c
  | none => .skip
noncomputable def kR0 : Code := cf kA
noncomputable def kR1 : Code := cf (cf (cs kA))
noncomputable def kR2 : Code := ct (cs (cf (cs kA)))
noncomputable def kT : Code := cs (cs kA)
theorem kBody : Tryz.f128.body = some kA := by kernel_rfl
theorem kShape : kA = .seq kR0 (.seq (.seq kR1 (.cond (.tmp 4) kR2 .skip)) kT) := by kernel_rfl
theorem kRegs : V.Regs kR0 ∧ (V.Regs kR1 ∧ (V.Regs kR2 ∧ V.Regs .skip)) ∧ V.Regs kT := by
  have h := regs 128 Tryz.f128 kA Tryz.func128 kBody
  rw [kShape] at h
  exact h
theorem ek0 : kR0 = .region 0 (ops kR0) false := by kernel_rfl
theorem ek1 : kR1 = .region 1 (ops kR1) false := by kernel_rfl
theorem ekT : kT = .seq (.region 3 (ops (cf kT)) false) .ret := by kernel_rfl
def oB (g : Nat) (l : List D) : V.Obj := ⟨5, 1, false, g, false, l.map .dat⟩
def K0 (l : List D) : V.St := ⟨.dat (.lst l) :: List.replicate 7 .undef, [], 0⟩
def K1 (l : List D) : V.St := ⟨[.dat (.lst l), .undef, .dat .nil, .undef, .undef, .undef, .undef, .undef], [], 8⟩
def K2 (l : List D) : V.St := ⟨[.dat (.lst l), .undef, .dat .nil, .dat (.lst l), .dat (.bool false), .undef, .undef, .undef], [], 24⟩
def K3 (l : List D) : V.St := ⟨[.dat (.lst l), .undef, .own 24 1 0 (0 + l.length), .dat (.lst l), .dat (.bool false), .own 24 0 0 0, .dat (.lst l), .own 24 1 0 (0 + l.length)], [(24, oB 1 l)], 56⟩
theorem clone0 (l : List D) : V.Run Tryz.prog kR0 (K0 l) .normal (K1 l) := by
  rw [ek0]
  refine V.Run.of_steps (goodE _) regs follows (by rw [← ek0]; exact kRegs.1) ?_
  apply V.Steps.auto; kernel_rfl; kernel_rfl; kernel_rfl; kernel_rfl
  exact .done (by kernel_rfl) (by kernel_rfl)
theorem clone1 (l : List D) : V.Run Tryz.prog kR1 (K1 l) .normal (K2 l) := by
  rw [ek1]
  refine V.Run.of_steps (goodE _) regs follows (by rw [← ek1]; exact kRegs.2.1.1) ?_
  apply V.Steps.auto; kernel_rfl; kernel_rfl; kernel_rfl; kernel_rfl
  apply V.Steps.auto; kernel_rfl; kernel_rfl; kernel_rfl; kernel_rfl
  exact .done (by kernel_rfl) (by kernel_rfl)
theorem clone3 (l : List D) (h0 : 0 < l.length) (hl : ∀ d ∈ l, d.one = true) (hb : l.length ≤ 100000000000) : V.Run Tryz.prog kT (K2 l) .ret (K3 l) := by
  have hg := kRegs.2.2
  rw [ekT] at hg
  rw [ekT]
  have h1 : V.Run Tryz.prog (.region 3 (ops (cf kT)) false) (K2 l) .normal (K3 l) := by
    refine V.Run.of_steps (goodE _) regs follows hg.1 ?_
    apply V.Steps.auto; kernel_rfl; kernel_rfl; kernel_rfl; kernel_rfl
    apply V.Steps.auto; kernel_rfl; kernel_rfl; kernel_rfl; kernel_rfl
    apply V.Steps.op; kernel_rfl; kernel_rfl; kernel_rfl; exact ((Eq.trans (b := V.opAppend Tryz.prog (V.getO [(24, oB 0 [])]) 40 30 30 (.own 24 0 0 0) (.dat (.lst l))) (by kernel_rfl) (V.st_append (ob := oB 0 []) (xs := l.map .dat) (m := l.length) (rd := []) bytesT rowBs (V.src_lst hl) h0 rfl rfl rfl rfl rfl (by omega))))
    apply V.Steps.auto; kernel_rfl; kernel_rfl; kernel_rfl; kernel_rfl
    exact .done (by kernel_rfl) (by kernel_rfl)
  exact V.Run.seq h1 (V.Run.ret (goodE V.sig0) regs follows)
theorem cloneHolds (l : List D) (h0 : 0 < l.length) (hl : ∀ d ∈ l, d.one = true) (hb : l.length ≤ 100000000000) : @V.CallHolds V.sig0 Tryz.prog 128 [.dat (.lst l)] [] 0 (.own 24 1 0 l.length) [(24, oB 1 l)] := by
  have rc : V.Run Tryz.prog (.cond (.tmp 4) kR2 .skip) (K2 l) .normal (K2 l) := V.Run.cond_false rfl (V.Run.skip (goodE V.sig0) regs follows)
  have rAll : V.Run Tryz.prog kA (K0 l) .ret (K3 l) := by
    rw [kShape]
    exact V.Run.seq (clone0 l) (V.Run.seq (V.Run.seq (clone1 l) rc) (clone3 l h0 hl hb))
  have h := @V.CallHolds.of_run V.sig0 _ _ _ _ Tryz.func128 kBody [.dat (.lst l)] [] 0 _ _ rAll (.inr rfl) [.own 24 1 0 (0 + l.length)] (by kernel_rfl)
  have e : V.resL [.own 24 1 0 (0 + l.length)] = .own 24 1 0 l.length := by rw [Nat.zero_add]; rfl
  rw [e] at h
  exact h

/-! zig.Put. -/
noncomputable def zA : Code := match Tryz.f107.body with
  | some c => c
  | none => .skip
noncomputable def zR0 : Code := cf zA
noncomputable def zR1 : Code := cf (cs zA)
noncomputable def zLp : Code := cb (cb (cf (cs (cs zA))))
noncomputable def zR2 : Code := cf (cf zLp)
noncomputable def zR3 : Code := cf (cb (cs zLp))
noncomputable def zR4 : Code := cs (cb (cs zLp))
noncomputable def zTl : Code := cs (cs (cs zA))
theorem zBody : Tryz.f107.body = some zA := by kernel_rfl
theorem zShape : zA = .seq zR0 (.seq zR1 (.seq (.block 0 (.loop zLp)) zTl)) := by kernel_rfl
theorem zShapeLp : zLp = .seq (.seq zR2 (.cond (.tmp 9) .skip (.exit 0))) (.block 1 (.seq zR3 zR4)) := by kernel_rfl
theorem zRegs : V.Regs zR0 ∧ V.Regs zR1 ∧ V.Regs zLp ∧ V.Regs zTl := by
  have h := regs 107 Tryz.f107 zA Tryz.func107 zBody
  rw [zShape] at h
  exact h
theorem zRegsLp : (V.Regs zR2 ∧ V.Regs .skip ∧ V.Regs (.exit 0)) ∧ V.Regs zR3 ∧ V.Regs zR4 := by
  have h := zRegs.2.2.1
  rw [zShapeLp] at h
  exact h
theorem ez0 : zR0 = .region 0 (ops zR0) false := by kernel_rfl
theorem ez1 : zR1 = .region 1 (ops zR1) false := by kernel_rfl
theorem ez2 : zR2 = .region 2 (ops zR2) false := by kernel_rfl
theorem ez3 : zR3 = .region 3 (ops zR3) false := by kernel_rfl
theorem ez4 : zR4 = .region 4 (ops zR4) false := by kernel_rfl
theorem ezT : zTl = .seq (.region 5 (ops (cf zTl)) false) .ret := by kernel_rfl
def hi7 (u : Int) : Int := IntKind.u8.wrap (BitVec.ofInt 8 (IntKind.u8.wrap u) ||| BitVec.ofInt 8 128).toNat
def sh7 (u : Int) : Int := u.fdiv (2 ^ min (7 : Int).toNat IntKind.u64.bits)
theorem sh7_eq (u : Int) : sh7 u = u.fdiv 128 := by
  have e : (2 : Int) ^ min (7 : Int).toNat IntKind.u64.bits = 128 := by decide
  unfold sh7
  rw [e]
def Z0 (l : D) (u : Int) : V.St := ⟨[.dat l, .dat (.int .u64 u)] ++ List.replicate 21 .undef, [], 0⟩
def Z1 (l : D) (u : Int) : V.St := ⟨[.dat l, .dat (.int .u64 u), .undef, .undef, .dat .nil] ++ List.replicate 18 .undef, [], 8⟩
def ZT (u : Int) (g n : Nat) (b : V.U) : List V.U := [.junk, .dat (.int .u64 u), .junk, .junk, .junk, .own 16 g 0 n, .junk, .junk, .junk, b] ++ List.replicate 13 .junk
def ZE (g n : Nat) : List V.U := [.junk, .junk, .junk, .junk, .own 16 g 0 n] ++ List.replicate 18 .junk
def ZS (u : Int) (g : Nat) (row : List D) (b : V.U) : V.St := ⟨ZT u g row.length b, [(16, oB g row)], 1000⟩
theorem len1 (l : List D) (d : D) : (l ++ [d]).length = l.length + 1 := by simp
def kZ : List Bool := [false, true, false, false, false, true]
def kZ2 : List Bool := [false, true, false, false, false, true, false, false, false, true]
theorem refsB (g : Nat) (l : List D) : V.refsL (oB g l).cells = [] := V.refsL_dats _
theorem oB_more (g g' : Nat) (l m : List D) : (⟨5, 1, false, g', false, (oB g l).cells ++ m.map .dat⟩ : V.Obj) = oB g' (l ++ m) := by simp [oB]
def anK (l : List D) : V.An := { anE with ownRes := fun f => Nat.beq f 128, call := V.inCalls [⟨128, [.dat (.lst l)], [], 0, .own 24 1 0 l.length, [(24, oB 1 l)], 56⟩] }
theorem goodK (l : List D) (h0 : 0 < l.length) (hl : ∀ d ∈ l, d.one = true) (hb : l.length ≤ 100000000000) : @V.Good V.sig0 Tryz.prog (anK l) :=
  @V.Good.mk V.sig0 _ _ named (fun _ _ _ h => nomatch h) (fun _ _ _ _ h => nomatch h) (@V.call_of_list V.sig0 _ _ (fun e he => by
    simp only [List.mem_cons, List.not_mem_nil, or_false] at he
    subst he
    exact cloneHolds l h0 hl hb) _ rfl)
theorem zput0 (l : D) (u : Int) : V.Run Tryz.prog zR0 (Z0 l u) .normal (Z1 l u) := by
  rw [ez0]
  refine V.Run.of_steps (goodE _) regs follows (by rw [← ez0]; exact zRegs.1) ?_
  apply V.Steps.auto; kernel_rfl; kernel_rfl; kernel_rfl; kernel_rfl
  exact .done (by kernel_rfl) (by kernel_rfl)
theorem zput1 (l : List D) (u : Int) (h0 : 0 < l.length) (hl : ∀ d ∈ l, d.one = true) (hb : l.length ≤ 100000000000) : V.Run Tryz.prog zR1 (Z1 (.lst l) u) .normal (ZS u 0 l .junk) := by
  rw [ez1]
  have hbr : V.bring [(24, oB 1 l)] true 16 (.own 24 1 0 l.length) = some (.own 16 0 0 l.length, [(16, oB 0 l)]) := by
    unfold V.bring
    have hg : V.getO [(24, oB 1 l)] 24 = some (oB 1 l) := rfl
    have hm : (oB 1 l).cells.mapM (V.toD (V.getO [(24, oB 1 l)]) 40) = some (l.map fun d => (d, [])) := V.toD_dats l
    simp only [hg]
    rw [if_pos ⟨rfl, Nat.one_pos, by simp [oB]⟩]
    simp only [hm, V.forceDN_eq, List.map_map, Function.comp_def, V.no_reads]
    rfl
  apply V.Run.stepsL (goodK l h0 hl hb) regs follows (keep := kZ) (ids := [16]) (nx := 1000) (by rw [← ez1]; exact zRegs.2.1)
  · apply V.Steps.auto; kernel_rfl; kernel_rfl; kernel_rfl; kernel_rfl
    apply V.Steps.step
    · kernel_rfl
    · kernel_rfl
    · intro k
      exact V.oper_own (an := anK l) (fo := .func 128) (xs := [.tmp 6]) (us := [.dat (.lst l)]) (caps := []) (ds := [(.lst l, [])]) (u := .own 24 1 0 l.length) (st' := [(24, oB 1 l)]) (nx' := 56) (by kernel_rfl) (by kernel_rfl) (by kernel_rfl) (by kernel_rfl) (by kernel_rfl) (by kernel_rfl) (by kernel_rfl) (by kernel_rfl) (V.inCalls_data (ds := [.lst l])) (by kernel_rfl) rfl hbr
    · apply V.Steps.auto; kernel_rfl; kernel_rfl; kernel_rfl; kernel_rfl
      exact V.Steps.done (by kernel_rfl) rfl
  · rfl
  · exact V.AllKept.cons (ob := oB 0 l) (by kernel_rfl) (congrArg (fun l => List.all l _) (refsB 0 l)) V.AllKept.nil
  · kernel_rfl
  · kernel_rfl
  · kernel_rfl
  · kernel_rfl
theorem zput2 (u : Int) (g : Nat) (row : List D) (b : V.U) (r : Bool) (hr : V.cmpI .gtr u 127 = some r) : V.Run Tryz.prog zR2 (ZS u g row b) .normal (ZS u g row (.dat (.bool r))) := by
  rw [ez2]
  apply V.Run.stepsL (goodE _) regs follows (keep := kZ2) (ids := [16]) (nx := 1000) (by rw [← ez2]; exact zRegsLp.1.1)
  · apply V.Steps.auto; kernel_rfl; kernel_rfl; kernel_rfl; kernel_rfl
    apply V.Steps.op; kernel_rfl; kernel_rfl; kernel_rfl; exact ((V.st_cmp (op := .gtr) (x := .tmp 8) (y := .const (.int .u64 127)) (k := .u64) (m := u) (n := 127) (r := r) (by kernel_rfl) (by kernel_rfl) (by kernel_rfl) hr))
    exact V.Steps.done (by kernel_rfl) rfl
  · rfl
  · exact V.AllKept.cons (ob := oB g row) (by kernel_rfl) (congrArg (fun l => List.all l _) (refsB g row)) V.AllKept.nil
  · kernel_rfl
  · kernel_rfl
  · kernel_rfl
  · kernel_rfl
theorem zput3 (u : Int) (g : Nat) (row : List D) (b : V.U) (hb : row.length ≤ 200000000000) : V.Run Tryz.prog zR3 (ZS u g row b) .normal (ZS u (g + 1) (row ++ [.int .u8 (hi7 u)]) .junk) := by
  rw [ez3]
  apply V.Run.stepsL (goodE _) regs follows (keep := kZ) (ids := [16]) (nx := 1000) (by rw [← ez3]; exact zRegsLp.2.1)
  · apply V.Steps.auto; kernel_rfl; kernel_rfl; kernel_rfl; kernel_rfl
    apply V.Steps.auto; kernel_rfl; kernel_rfl; kernel_rfl; kernel_rfl
    apply V.Steps.op; kernel_rfl; kernel_rfl; kernel_rfl; exact ((V.st_conv (s := 94) (t := 5) (x := .tmp 11) (k := .u64) (j := .u8) (n := u) (sd := .int .u64) (by kernel_rfl) (by kernel_rfl) (by kernel_rfl) (by kernel_rfl)))
    apply V.Steps.op; kernel_rfl; kernel_rfl; kernel_rfl; exact ((V.st_bit (op := .or) (x := .tmp 12) (y := .const (.int .u8 128)) (k := .u8) (j := .u8) (m := IntKind.u8.wrap u) (n := 128) (r := hi7 u) (by kernel_rfl) (by kernel_rfl) (by kernel_rfl) (.inr rfl) rfl))
    apply V.Steps.auto; kernel_rfl; kernel_rfl; kernel_rfl; kernel_rfl
    apply V.Steps.op; kernel_rfl; kernel_rfl; kernel_rfl; exact ((Eq.trans (b := V.opAppend Tryz.prog (V.getO [(16, oB g row), (1032, ⟨5, 1, false, 0, false, [.dat (.int .u8 (hi7 u))]⟩)]) 1040 30 30 (.own 16 g 0 row.length) (.own 1032 0 0 1)) (by kernel_rfl) (V.st_append (ob := oB g row) (xs := [.dat (.int .u8 (hi7 u))]) (m := 1) (rd := [1032]) bytesT rowBs (by kernel_rfl) Nat.one_pos rfl rfl rfl rfl (by simp [oB]) (by omega))))
    apply V.Steps.auto; kernel_rfl; kernel_rfl; kernel_rfl; kernel_rfl
    exact V.Steps.done (by kernel_rfl) rfl
  · rfl
  · exact V.AllKept.cons (ob := oB (g + 1) (row ++ [.int .u8 (hi7 u)])) (Eq.trans (b := some ⟨5, 1, false, g + 1, false, (oB g row).cells ++ [D.int .u8 (hi7 u)].map .dat⟩) (by kernel_rfl) (congrArg some (oB_more g (g + 1) row [.int .u8 (hi7 u)]))) (congrArg (fun l => List.all l _) (refsB (g + 1) _)) V.AllKept.nil
  · kernel_rfl
  · kernel_rfl
  · kernel_rfl
  · exact Eq.trans (b := ZT u (g + 1) (row.length + 1) .junk) (by kernel_rfl) (congrArg (fun n => ZT u (g + 1) n .junk) (len1 row (.int .u8 (hi7 u))).symm)
theorem zput4 (u : Int) (g : Nat) (row : List D) (b : V.U) : V.Run Tryz.prog zR4 (ZS u g row b) .normal (ZS (sh7 u) g row .junk) := by
  rw [ez4]
  apply V.Run.stepsL (goodE _) regs follows (keep := kZ) (ids := [16]) (nx := 1000) (by rw [← ez4]; exact zRegsLp.2.2)
  · apply V.Steps.auto; kernel_rfl; kernel_rfl; kernel_rfl; kernel_rfl
    apply V.Steps.op; kernel_rfl; kernel_rfl; kernel_rfl; exact ((V.st_bit (op := .shr) (x := .tmp 16) (y := .const (.int .u64 7)) (k := .u64) (j := .u64) (m := u) (n := 7) (r := sh7 u) (by kernel_rfl) (by kernel_rfl) (by kernel_rfl) (.inl rfl) (by kernel_rfl)))
    apply V.Steps.auto; kernel_rfl; kernel_rfl; kernel_rfl; kernel_rfl
    exact V.Steps.done (by kernel_rfl) rfl
  · rfl
  · exact V.AllKept.cons (ob := oB g row) (by kernel_rfl) (congrArg (fun l => List.all l _) (refsB g row)) V.AllKept.nil
  · kernel_rfl
  · kernel_rfl
  · kernel_rfl
  · kernel_rfl
/-- what the loop puts behind, and what is left -/
def zgr : Nat → Int → List D
  | 0, _ => []
  | f + 1, u => if u > 127 then .int .u8 (hi7 u) :: zgr f (sh7 u) else []
def zlast : Nat → Int → Int
  | 0, u => u
  | f + 1, u => if u > 127 then zlast f (sh7 u) else u
def zbs (u : Int) : List D := zgr 9 u ++ [lo8 (zlast 9 u)]
theorem zgr_one : ∀ (f : Nat) (u : Int), ∀ d ∈ zgr f u, d.one = true
  | 0, _ => fun d h => absurd h (by simp [zgr])
  | f + 1, u => by
    intro d h
    unfold zgr at h
    split at h
    · rcases List.mem_cons.1 h with rfl | h
      · rfl
      · exact zgr_one f _ d h
    · simp at h
theorem zgr_no : ∀ (f : Nat) (u : Int), V.noSyms (zgr f u) = true
  | 0, _ => rfl
  | f + 1, u => by
    unfold zgr
    split
    · simp only [V.noSyms, zgr_no f, Bool.and_true]; rfl
    · rfl
theorem zput5 (u : Int) (g : Nat) (row : List D) (b : V.U) (hb : row.length ≤ 200000000000) : ∃ s', V.Run Tryz.prog zTl (ZS u g row b) .ret s' ∧ s'.tm[4]? = some (.own 16 (g + 1) 0 (row ++ [lo8 u]).length) ∧ V.getO s'.st 16 = some (oB (g + 1) (row ++ [lo8 u])) := by
  have hg := zRegs.2.2.2
  rw [ezT] at hg
  rw [ezT]
  refine ⟨⟨ZE (g + 1) (row ++ [lo8 u]).length, [(16, oB (g + 1) (row ++ [lo8 u]))], 1000⟩, ?_, rfl, rfl⟩
  have h1 : V.Run Tryz.prog (.region 5 (ops (cf zTl)) false) (ZS u g row b) .normal ⟨ZE (g + 1) (row ++ [lo8 u]).length, [(16, oB (g + 1) (row ++ [lo8 u]))], 1000⟩ := by
    apply V.Run.stepsL (goodE V.sig0) regs follows (keep := [false, false, false, false, true]) (ids := [16]) (nx := 1000) hg.1
    · apply V.Steps.auto; kernel_rfl; kernel_rfl; kernel_rfl; kernel_rfl
      apply V.Steps.auto; kernel_rfl; kernel_rfl; kernel_rfl; kernel_rfl
      apply V.Steps.op; kernel_rfl; kernel_rfl; kernel_rfl; exact ((V.st_conv (s := 94) (t := 5) (x := .tmp 19) (k := .u64) (j := .u8) (n := u) (sd := .int .u64) (by kernel_rfl) (by kernel_rfl) (by kernel_rfl) (by kernel_rfl)))
      apply V.Steps.auto; kernel_rfl; kernel_rfl; kernel_rfl; kernel_rfl
      apply V.Steps.op; kernel_rfl; kernel_rfl; kernel_rfl; exact ((Eq.trans (b := V.opAppend Tryz.prog (V.getO [(16, oB g row), (1024, ⟨5, 1, false, 0, false, [.dat (lo8 u)]⟩)]) 1032 30 30 (.own 16 g 0 row.length) (.own 1024 0 0 1)) (by kernel_rfl) (V.st_append (ob := oB g row) (xs := [.dat (lo8 u)]) (m := 1) (rd := [1024]) bytesT rowBs (by kernel_rfl) Nat.one_pos rfl rfl rfl rfl (by simp [oB]) (by omega))))
      apply V.Steps.auto; kernel_rfl; kernel_rfl; kernel_rfl; kernel_rfl
      exact V.Steps.done (by kernel_rfl) rfl
    · rfl
    · exact V.AllKept.cons (ob := oB (g + 1) (row ++ [lo8 u])) (Eq.trans (b := some ⟨5, 1, false, g + 1, false, (oB g row).cells ++ [lo8 u].map .dat⟩) (by kernel_rfl) (congrArg some (oB_more g (g + 1) row [lo8 u]))) (congrArg (fun l => List.all l _) (refsB (g + 1) _)) V.AllKept.nil
    · kernel_rfl
    · kernel_rfl
    · kernel_rfl
    · exact Eq.trans (b := ZE (g + 1) (row.length + 1)) (by kernel_rfl) (congrArg (fun n => ZE (g + 1) n) (len1 row (lo8 u)).symm)
  exact V.Run.seq h1 (V.Run.ret (goodE V.sig0) regs follows)
theorem zLoop : ∀ (f : Nat) (u : Int) (g : Nat) (row : List D), 0 ≤ u → u < 128 ^ (f + 1) → row.length + f ≤ 200000000000 → ∃ g' b, V.LRun Tryz.prog zLp (ZS u g row .junk) (.exit 0) (ZS (zlast f u) g' (row ++ zgr f u) b) := by
  have out : ∀ (u : Int) (g : Nat) (row : List D), u ≤ 127 → V.LRun Tryz.prog zLp (ZS u g row .junk) (.exit 0) (ZS u g row (.dat (.bool false))) := by
    intro u g row h
    have r2 := zput2 u g row .junk false (V.c_gtrF h)
    have rc : V.Run Tryz.prog (.cond (.tmp 9) .skip (.exit 0)) (ZS u g row (.dat (.bool false))) (.exit 0) _ := V.Run.cond_false rfl (V.Run.exit (goodE V.sig0) regs follows)
    rw [zShapeLp]
    exact V.LRun.out (V.Run.seq_out (V.Run.seq r2 rc) (by simp)) (by simp)
  intro f
  induction f with
  | zero =>
    intro u g row h0 h1 hb
    have h : u ≤ 127 := by simp at h1; omega
    refine ⟨g, .dat (.bool false), ?_⟩
    simp only [zgr, zlast, List.append_nil]
    exact out u g row h
  | succ f ih =>
    intro u g row h0 h1 hb
    by_cases h : u > 127
    · have hs : sh7 u = u / 128 := by rw [sh7_eq]; exact Int.fdiv_eq_ediv_of_nonneg u (by decide)
      have r2 := zput2 u g row .junk true (V.c_gtrT h)
      have rc : V.Run Tryz.prog (.cond (.tmp 9) .skip (.exit 0)) (ZS u g row (.dat (.bool true))) .normal _ := V.Run.cond_true rfl (V.Run.skip (goodE V.sig0) regs follows)
      have r3 := zput3 u g row (.dat (.bool true)) (by omega)
      have r4 := zput4 u (g + 1) (row ++ [.int .u8 (hi7 u)]) .junk
      have hu : u / 128 < 128 ^ (f + 1) := by
        have : (128 : Int) ^ (f + 1 + 1) = 128 ^ (f + 1) * 128 := Int.pow_succ 128 (f + 1)
        rw [this] at h1
        exact Int.ediv_lt_of_lt_mul (by decide) h1
      obtain ⟨g', b, hL⟩ := ih (sh7 u) (g + 1) (row ++ [.int .u8 (hi7 u)]) (by rw [hs]; omega) (by rw [hs]; exact hu) (by simp only [List.length_append, List.length_cons, List.length_nil]; omega)
      refine ⟨g', b, ?_⟩
      simp only [zgr, zlast, if_pos h]
      rw [List.append_assoc] at hL
      refine V.LRun.step ?_ hL
      rw [zShapeLp]
      exact V.Run.seq (V.Run.seq r2 rc) (V.Run.block (id := 1) (V.Run.seq r3 r4))
    · refine ⟨g, .dat (.bool false), ?_⟩
      simp only [zgr, zlast, if_neg h, List.append_nil]
      exact out u g row (by omega)
theorem zputHolds (l : List D) (u : Int) (h0 : 0 < l.length) (hl : ∀ d ∈ l, d.one = true) (hb : l.length ≤ 100000000000) (hu : 0 ≤ u) (hu2 : u < 18446744073709551616) : V.Holds Tryz.prog 107 [.lst l, .int .u64 u] [.lst (l ++ zbs u)] := by
  have hpow : u < (128 : Int) ^ (9 + 1) := by
    have h10 : (128 : Int) ^ (9 + 1) = 1180591620717411303424 := by decide +kernel
    rw [h10]
    omega
  obtain ⟨g', b, hL⟩ := zLoop 9 u 0 l hu hpow (by omega)
  have hlen : (zgr 9 u).length ≤ 9 := by
    have : ∀ (f : Nat) (u : Int), (zgr f u).length ≤ f := by
      intro f
      induction f with
      | zero => intro u; simp [zgr]
      | succ f ih =>
        intro u
        unfold zgr
        split
        · have := ih (sh7 u); simp only [List.length_cons]; omega
        · simp
    exact this 9 u
  obtain ⟨s', rT, ht, ho⟩ := zput5 (zlast 9 u) g' (l ++ zgr 9 u) b (by rw [List.length_append]; omega)
  have rAll : V.Run Tryz.prog zA (Z0 (.lst l) u) .ret s' := by
    rw [zShape]
    exact V.Run.seq (zput0 (.lst l) u) (V.Run.seq (zput1 l u h0 hl hb) (V.Run.seq (V.Run.block_to (V.Run.loop hL)) rT))
  have hc : l ++ zbs u = l ++ zgr 9 u ++ [lo8 (zlast 9 u)] := by rw [zbs, List.append_assoc]
  rw [hc]
  have htd := V.toD_row (g := V.getO s'.st) (k := 38) (o := 16) (gn := g' + 1) (ob := oB (g' + 1) (l ++ zgr 9 u ++ [lo8 (zlast 9 u)])) (l := l ++ zgr 9 u ++ [lo8 (zlast 9 u)]) ho rfl rfl rfl rfl
  have e0 : Z0 (.lst l) u = ⟨([.lst l, .int .u64 u] : List D).map .dat ++ List.replicate (Tryz.f107.ntmps - (([.lst l, .int .u64 u] : List D).map V.U.dat).length) .undef, [], 0⟩ := by kernel_rfl
  rw [e0] at rAll
  refine V.holds_of_run Tryz.func107 zBody (ds := [.lst l, .int .u64 u]) (us := [.own 16 (g' + 1) 0 (l ++ zgr 9 u ++ [lo8 (zlast 9 u)]).length]) (rs := [(.lst (l ++ zgr 9 u ++ [lo8 (zlast 9 u)]), [16])]) rAll (.inr rfl) ?_ ?_
  · have hr : Tryz.f107.results.toList = [.tmp 4] := by kernel_rfl
    rw [hr, List.mapM_cons]
    simp only [V.resU, ht]
    rfl
  · rw [List.mapM_cons, htd]
    rfl
end Go.Proofs.YtjmfkfmcigdgbaaGreat.Say
