/- octet.Put, whatever the bytes ahead: bytes, and the lowest of a number's behind them. -/
import Derived.Test.YtjmfkfmcigdgbaaGreatChecked
import Derived.Test.YtjmfkfmcigdgbaaGreatV25
set_option linter.unusedVariables false
set_option linter.unusedSimpArgs false
namespace Go.Proofs.YtjmfkfmcigdgbaaGreat.Say
open Go Go.RowKit
open V (D)
instance : V.Sig := V.sig0
theorem named : V.Named Tryz.prog := by
  have h : Tryz.prog.funcs.all (fun fn => fn.body.isNone || !(fn.name == "runtime.NumGoroutine")) = true := by kernel_rfl
  intro f fn c hf hc
  have := Array.all_eq_true_iff_forall_mem.1 h fn (Array.mem_of_getElem? hf)
  simpa [hc] using this
theorem regs : V.RegsP Tryz.prog := V.regs_of_check Tryz.checked.codeOk
theorem follows : Tryz.prog.follows .mixedOrders = true := by kernel_rfl
/-- nothing is known -/
def anE : V.An := { io := fun _ => false, ownRes := fun _ => false, spec := fun _ _ => none }
theorem goodE (s : V.Sig) : @V.Good s Tryz.prog anE := @V.Good.mk s _ _ named (fun _ _ _ h => nomatch h) (fun _ _ _ _ h => nomatch h) (V.call_none rfl)
def cf : Code → Code
  | .seq a _ => a
  | c => c
def cs : Code → Code
  | .seq _ b => b
  | c => c
def cb : Code → Code
  | .block _ b => b
  | .loop b => b
  | c => c
def ct : Code → Code
  | .cond _ a _ => a
  | c => c
def ce : Code → Code
  | .cond _ _ b => b
  | c => c
def ops : Code → Array Oper
  | .region _ o _ => o
  | _ => #[]
theorem bytesT : V.ByteT Tryz.prog 30 5 := ⟨by kernel_rfl, by kernel_rfl, by kernel_rfl, by kernel_rfl⟩
theorem rowBs : V.isRowT Tryz.prog 30 = true := by kernel_rfl
theorem u8size : V.sizeT Tryz.prog 5 = some 1 := by kernel_rfl

/-! The code. -/
noncomputable def pA : Code := match Tryz.f90.body with
  | some c => c
  | none => .skip
noncomputable def pR0 : Code := cf pA
noncomputable def pR1 : Code := cf (cf (cs pA))
noncomputable def pB : Code := cs (cs pA)
noncomputable def pR3 : Code := cf pB
noncomputable def pR4 : Code := cf (cs pB)
noncomputable def pC : Code := cs (cs pB)
noncomputable def pR5 : Code := cf (cf pC)
noncomputable def pL : Code := cb (cb (cs (cf pC)))
noncomputable def pR6 : Code := cf (cf pL)
noncomputable def pR8 : Code := cf (cb (cf (cs pL)))
noncomputable def pR9 : Code := cs (cb (cf (cs pL)))
noncomputable def pR7 : Code := cs (cs pL)
noncomputable def pR2 : Code := ct (cs (cf (cs pA)))
noncomputable def pT : Code := cs pC
theorem pBody : Tryz.f90.body = some pA := by kernel_rfl
theorem pShape : pA = .seq pR0 (.seq (.seq pR1 (.cond (.tmp 14) pR2 .skip)) (.seq pR3 (.seq pR4 (.seq (.seq pR5 (.block 0 (.loop (.seq (.seq pR6 (.cond (.tmp 29) .skip (.exit 0))) (.seq (.block 1 (.seq pR8 pR9)) pR7))))) pT)))) := by kernel_rfl
theorem pRegs : V.Regs pR0 ∧ (V.Regs pR1 ∧ (V.Regs pR2 ∧ V.Regs .skip)) ∧ V.Regs pR3 ∧ V.Regs pR4 ∧ (V.Regs pR5 ∧ ((V.Regs pR6 ∧ (V.Regs .skip ∧ V.Regs (.exit 0))) ∧ ((V.Regs pR8 ∧ V.Regs pR9) ∧ V.Regs pR7))) ∧ V.Regs pT := by
  have h := regs 90 Tryz.f90 pA Tryz.func90 pBody
  rw [pShape] at h
  exact h
theorem eR0 : pR0 = .region 0 (ops pR0) false := by kernel_rfl
theorem eR1 : pR1 = .region 1 (ops pR1) false := by kernel_rfl
theorem eR3 : pR3 = .region 3 (ops pR3) false := by kernel_rfl
theorem eR4 : pR4 = .region 4 (ops pR4) false := by kernel_rfl
theorem eR5 : pR5 = .region 5 (ops pR5) false := by kernel_rfl
theorem eR6 : pR6 = .region 6 (ops pR6) false := by kernel_rfl
theorem eR7 : pR7 = .region 7 (ops pR7) false := by kernel_rfl
theorem eR8 : pR8 = .region 8 (ops pR8) false := by kernel_rfl
theorem eR9 : pR9 = .region 9 (ops pR9) false := by kernel_rfl

/-! States. -/
def P0 (l : List D) (u z : Int) : V.St := ⟨[.dat (.lst l), .dat (.int .u64 u), .dat (.int .i64 z)] ++ List.replicate 37 .undef, [], 0⟩
def P1 (l : List D) (u z : Int) : V.St := ⟨[.dat (.lst l), .dat (.int .u64 u), .dat (.int .i64 z)] ++ List.replicate 11 .junk ++ [.dat (.bool false)] ++ List.replicate 25 .junk, [], 56⟩
def oR (cells : List V.U) : V.Obj := ⟨5, 1, false, 0, false, cells⟩
def P3 (l : List D) (u : Int) (n : Nat) (cells : List V.U) : V.St := ⟨[.dat (.lst l), .dat (.int .u64 u), .junk, .junk, .junk, .junk, .junk, .own 88 0 0 n] ++ List.replicate 32 .junk, [(88, oR cells)], 104⟩
def P4 (l : List D) (u : Int) (n : Nat) (cells : List V.U) (idx : Int) (b : V.U) : V.St := ⟨[.dat (.lst l), .dat (.int .u64 u), .junk, .junk, .junk, .junk, .junk, .own 88 0 0 n, .dat (.int .i64 idx)] ++ List.replicate 20 .junk ++ [b] ++ List.replicate 10 .junk, [(88, oR cells)], 104⟩
def P5 (n : Nat) (cells : List V.U) : V.St := ⟨[.junk, .junk, .junk, .junk, .junk, .junk, .own 88 0 0 n] ++ List.replicate 33 .junk, [(88, oR cells)], 104⟩
def k5 : List Bool := [false, false, false, false, false, false, true]
def k1 : List Bool := [true, true, true] ++ List.replicate 11 false ++ [true]
def k3 : List Bool := [true, true, false, false, false, false, false, true]
def k4 : List Bool := [true, true, false, false, false, false, false, true, true]
def k6 : List Bool := k4 ++ List.replicate 20 false ++ [true]

theorem put0 (l : List D) (u z : Int) : V.Run Tryz.prog pR0 (P0 l u z) .normal ⟨(P0 l u z).tm.set 6 (.dat .nil), [], 8⟩ := by
  rw [eR0]
  refine V.Run.of_steps (goodE _) regs follows (by rw [← eR0]; exact pRegs.1) ?_
  apply V.Steps.auto; kernel_rfl; kernel_rfl; kernel_rfl; kernel_rfl
  exact .done (by kernel_rfl) (by kernel_rfl)
theorem put1 (l : List D) (u z : Int) (h0 : 0 ≤ z) (h8 : z ≤ 8) : V.Run Tryz.prog pR1 ⟨(P0 l u z).tm.set 6 (.dat .nil), [], 8⟩ .normal (P1 l u z) := by
  rw [eR1]
  apply V.Run.steps0 (keep := k1) (nx := 56) (goodE _) regs follows (by rw [← eR1]; exact pRegs.2.1.1)
  · apply V.Steps.auto; kernel_rfl; kernel_rfl; kernel_rfl; kernel_rfl
    apply V.Steps.op; kernel_rfl; kernel_rfl; kernel_rfl; exact ((V.st_cmp (op := .lss) (x := .tmp 9) (y := .const (.int .i64 0)) (k := .i64) (m := z) (n := 0) (r := false) (by kernel_rfl) (by kernel_rfl) (by kernel_rfl) (by simp [V.cmpI]; omega)))
    apply V.Steps.auto; kernel_rfl; kernel_rfl; kernel_rfl; kernel_rfl
    apply V.Steps.auto; kernel_rfl; kernel_rfl; kernel_rfl; kernel_rfl
    apply V.Steps.op; kernel_rfl; kernel_rfl; kernel_rfl; exact ((V.st_cmp (op := .gtr) (x := .tmp 12) (y := .const (.int .i64 8)) (k := .i64) (m := z) (n := 8) (r := false) (by kernel_rfl) (by kernel_rfl) (by kernel_rfl) (by simp [V.cmpI]; omega)))
    apply V.Steps.auto; kernel_rfl; kernel_rfl; kernel_rfl; kernel_rfl
    exact V.Steps.done (by kernel_rfl) rfl
  · kernel_rfl
  · kernel_rfl
  · kernel_rfl
theorem put1c (l : List D) (u z : Int) : V.Run Tryz.prog (.cond (.tmp 14) pR2 .skip) (P1 l u z) .normal (P1 l u z) :=
  V.Run.cond_false rfl (V.Run.skip (goodE V.sig0) regs follows)

def zr : V.U := .dat (.int .u8 0)
theorem refsZ (n : Nat) : V.refsL (List.replicate n zr) = [] := by
  have e : List.replicate n zr = (List.replicate n (D.int .u8 0)).map V.U.dat := by simp [zr]
  rw [e]
  exact V.refsL_dats _
theorem put3 (l : List D) (u : Int) (z : Nat) (hn : l.length + z ≤ 1000000000000) : V.Run Tryz.prog pR3 (P1 l u z) .normal (P3 l u (l.length + z) (List.replicate (l.length + z) zr)) := by
  rw [eR3]
  apply V.Run.steps1 (o := 88) (ob := oR (List.replicate (l.length + z) zr)) (keep := k3) (nx := 104) (goodE _) regs follows (by rw [← eR3]; exact pRegs.2.2.1)
  · apply V.Steps.auto; kernel_rfl; kernel_rfl; kernel_rfl; kernel_rfl
    apply V.Steps.auto; kernel_rfl; kernel_rfl; kernel_rfl; kernel_rfl
    apply V.Steps.auto; kernel_rfl; kernel_rfl; kernel_rfl; kernel_rfl
    apply V.Steps.op; kernel_rfl; kernel_rfl; kernel_rfl; exact ((V.st_ari (op := .add) (x := .tmp 16) (y := .tmp 17) (k := .i64) (m := (l.length : Int)) (n := (z : Int)) (r := ((l.length + z : Nat) : Int)) (by kernel_rfl) (by kernel_rfl) (by kernel_rfl) (by simp only [V.ariI, V.wr_i64, Option.some.injEq]; omega)))
    apply V.Steps.op; kernel_rfl; kernel_rfl; kernel_rfl; exact ((Eq.trans (b := V.opMakeSlice Tryz.prog 88 30 (.dat (.int .i64 ((l.length + z : Nat) : Int))) (.dat (.int .i64 ((l.length + z : Nat) : Int)))) (by kernel_rfl) (V.st_make bytesT (by omega))))
    apply V.Steps.auto; kernel_rfl; kernel_rfl; kernel_rfl; kernel_rfl
    exact V.Steps.done (by kernel_rfl) rfl
  · kernel_rfl
  · exact refsZ _
  · kernel_rfl
  · kernel_rfl
  · kernel_rfl
  · kernel_rfl
def C4 (l : List D) (z : Nat) : List V.U := l.map .dat ++ (List.replicate (l.length + z) zr).drop l.length
theorem put4 (l : List D) (u : Int) (z : Nat) (h0 : 0 < l.length) (hl : ∀ d ∈ l, d.one = true) : V.Run Tryz.prog pR4 (P3 l u (l.length + z) (List.replicate (l.length + z) zr)) .normal (P3 l u (l.length + z) (C4 l z)) := by
  rw [eR4]
  apply V.Run.steps1 (o := 88) (ob := oR (C4 l z)) (keep := k3) (nx := 104) (goodE _) regs follows (by rw [← eR4]; exact pRegs.2.2.2.1)
  · apply V.Steps.auto; kernel_rfl; kernel_rfl; kernel_rfl; kernel_rfl
    apply V.Steps.auto; kernel_rfl; kernel_rfl; kernel_rfl; kernel_rfl
    apply V.Steps.op; kernel_rfl; kernel_rfl; kernel_rfl; exact ((Eq.trans (b := V.opCopy Tryz.prog (V.getO [(88, oR (List.replicate (l.length + z) zr))]) 30 30 (.own 88 0 0 (l.length + z)) (.dat (.lst l))) (by kernel_rfl) (V.st_copy (ob := oR (List.replicate (l.length + z) zr)) bytesT rowBs hl rfl rfl rfl rfl (by omega) (by simp [oR]) h0)))
    exact V.Steps.done (by kernel_rfl) rfl
  · kernel_rfl
  · show V.refsL (C4 l z) = []
    unfold C4
    rw [V.refsL_app, V.refsL_dats, List.drop_replicate, refsZ]
    rfl
  · kernel_rfl
  · kernel_rfl
  · kernel_rfl
  · kernel_rfl
theorem C4_eq (l : List D) (z : Nat) : C4 l z = l.map .dat ++ (List.replicate z (D.int .u8 0)).map .dat := by
  unfold C4
  rw [List.drop_replicate]
  simp [zr]
theorem put5 (l : List D) (u : Int) (n : Nat) (cells : List V.U) (hr : V.refsL cells = []) (hn : n ≤ 1000000000000) (hn0 : 0 < n) : V.Run Tryz.prog pR5 (P3 l u n cells) .normal (P4 l u n cells ((n : Int) - 1) .junk) := by
  rw [eR5]
  apply V.Run.steps1 (o := 88) (ob := oR cells) (keep := k4) (nx := 104) (goodE _) regs follows (by rw [← eR5]; exact pRegs.2.2.2.2.1.1)
  · apply V.Steps.auto; kernel_rfl; kernel_rfl; kernel_rfl; kernel_rfl
    apply V.Steps.auto; kernel_rfl; kernel_rfl; kernel_rfl; kernel_rfl
    apply V.Steps.op; kernel_rfl; kernel_rfl; kernel_rfl; exact ((V.st_ari (op := .sub) (x := .tmp 24) (y := .const (.int .i64 1)) (k := .i64) (m := (n : Int)) (n := 1) (r := (n : Int) - 1) (by kernel_rfl) (by kernel_rfl) (by kernel_rfl) (by simp only [V.ariI, V.wr_i64, Option.some.injEq]; omega)))
    apply V.Steps.auto; kernel_rfl; kernel_rfl; kernel_rfl; kernel_rfl
    exact V.Steps.done (by kernel_rfl) rfl
  · kernel_rfl
  · exact hr
  · kernel_rfl
  · kernel_rfl
  · kernel_rfl
  · kernel_rfl
theorem put6 (l : List D) (u : Int) (n : Nat) (cells : List V.U) (idx : Int) (b : V.U) (hr : V.refsL cells = []) (r : Bool) (hc : V.cmpI .geq idx l.length = some r) : V.Run Tryz.prog pR6 (P4 l u n cells idx b) .normal (P4 l u n cells idx (.dat (.bool r))) := by
  rw [eR6]
  apply V.Run.steps1 (o := 88) (ob := oR cells) (keep := k6) (nx := 104) (goodE _) regs follows (by rw [← eR6]; exact pRegs.2.2.2.2.1.2.1.1)
  · apply V.Steps.auto; kernel_rfl; kernel_rfl; kernel_rfl; kernel_rfl
    apply V.Steps.auto; kernel_rfl; kernel_rfl; kernel_rfl; kernel_rfl
    apply V.Steps.auto; kernel_rfl; kernel_rfl; kernel_rfl; kernel_rfl
    apply V.Steps.op; kernel_rfl; kernel_rfl; kernel_rfl; exact ((V.st_cmp (op := .geq) (x := .tmp 26) (y := .tmp 28) (k := .i64) (m := idx) (n := (l.length : Int)) (r := r) (by kernel_rfl) (by kernel_rfl) (by kernel_rfl) hc))
    exact V.Steps.done (by kernel_rfl) rfl
  · kernel_rfl
  · exact hr
  · kernel_rfl
  · kernel_rfl
  · kernel_rfl
  · kernel_rfl
def lo8 (u : Int) : D := .int .u8 (IntKind.u8.wrap u)
def sh8 (u : Int) : Int := u.fdiv (2 ^ min (8 : Int).toNat IntKind.u64.bits)
theorem put8 (l : List D) (u : Int) (n q : Nat) (cells : List V.U) (b : V.U) (hr : V.refsL (cells.set (l.length + q) (.dat (lo8 u))) = []) (hq : l.length + q < n) (hn : cells.length = n) :
    V.Run Tryz.prog pR8 (P4 l u n cells ((l.length + q : Nat) : Int) b) .normal (P4 l u n (cells.set (l.length + q) (.dat (lo8 u))) ((l.length + q : Nat) : Int) .junk) := by
  have hz : 0 + (l.length + q) < cells.length := by omega
  have e0 : cells.set (0 + (l.length + q)) (V.U.dat (lo8 u)) = cells.set (l.length + q) (.dat (lo8 u)) := by rw [Nat.zero_add]
  rw [eR8]
  apply V.Run.steps1 (o := 88) (ob := oR (cells.set (0 + (l.length + q)) (.dat (lo8 u)))) (keep := k4) (nx := 104) (goodE _) regs follows (by rw [← eR8]; exact pRegs.2.2.2.2.1.2.2.1.1)
  · apply V.Steps.auto; kernel_rfl; kernel_rfl; kernel_rfl; kernel_rfl
    apply V.Steps.auto; kernel_rfl; kernel_rfl; kernel_rfl; kernel_rfl
    apply V.Steps.auto; kernel_rfl; kernel_rfl; kernel_rfl; kernel_rfl
    apply V.Steps.op; kernel_rfl; kernel_rfl; kernel_rfl; exact ((V.st_conv (s := 94) (t := 5) (x := .tmp 34) (k := .u64) (j := .u8) (n := u) (sd := .int .u64) (by kernel_rfl) (by kernel_rfl) (by kernel_rfl) (by kernel_rfl)))
    apply V.Steps.op; kernel_rfl; kernel_rfl; kernel_rfl; exact ((Eq.trans (b := V.opIndexAddr Tryz.prog (V.getO [(88, oR cells)]) 30 (.own 88 0 0 n) (.dat (.int .i64 ((l.length + q : Nat) : Int)))) (by kernel_rfl) (V.st_addr (ob := oR cells) bytesT rfl rfl rfl hq)))
    apply V.Steps.op; kernel_rfl; kernel_rfl; kernel_rfl; exact ((Eq.trans (b := V.opStore Tryz.prog (V.getO [(88, oR cells)]) 5 (.ptr 88 0 (0 + (l.length + q))) (.dat (lo8 u))) (by kernel_rfl) (V.st_store (ob := oR cells) u8size rfl rfl rfl Nat.one_pos rfl hz)))
    exact V.Steps.done (by kernel_rfl) rfl
  · kernel_rfl
  · show V.refsL (cells.set (0 + (l.length + q)) (.dat (lo8 u))) = []
    rw [e0]
    exact hr
  · kernel_rfl
  · kernel_rfl
  · kernel_rfl
  · rw [e0]
    kernel_rfl
theorem put9 (l : List D) (u : Int) (n : Nat) (cells : List V.U) (idx : Int) (b : V.U) (hr : V.refsL cells = []) : V.Run Tryz.prog pR9 (P4 l u n cells idx b) .normal (P4 l (sh8 u) n cells idx .junk) := by
  rw [eR9]
  apply V.Run.steps1 (o := 88) (ob := oR cells) (keep := k4) (nx := 104) (goodE _) regs follows (by rw [← eR9]; exact pRegs.2.2.2.2.1.2.2.1.2)
  · apply V.Steps.auto; kernel_rfl; kernel_rfl; kernel_rfl; kernel_rfl
    apply V.Steps.op; kernel_rfl; kernel_rfl; kernel_rfl; exact ((V.st_bit (op := .shr) (x := .tmp 37) (y := .const (.int .u64 8)) (k := .u64) (j := .u64) (m := u) (n := 8) (r := sh8 u) (by kernel_rfl) (by kernel_rfl) (by kernel_rfl) (.inl rfl) (by kernel_rfl)))
    apply V.Steps.auto; kernel_rfl; kernel_rfl; kernel_rfl; kernel_rfl
    exact V.Steps.done (by kernel_rfl) rfl
  · kernel_rfl
  · exact hr
  · kernel_rfl
  · kernel_rfl
  · kernel_rfl
  · kernel_rfl
theorem put7 (l : List D) (u : Int) (n : Nat) (cells : List V.U) (idx : Int) (b : V.U) (hr : V.refsL cells = []) (h0 : 0 ≤ idx) (h1 : idx ≤ 1000000000000) : V.Run Tryz.prog pR7 (P4 l u n cells idx b) .normal (P4 l u n cells (idx - 1) .junk) := by
  rw [eR7]
  apply V.Run.steps1 (o := 88) (ob := oR cells) (keep := k4) (nx := 104) (goodE _) regs follows (by rw [← eR7]; exact pRegs.2.2.2.2.1.2.2.2)
  · apply V.Steps.auto; kernel_rfl; kernel_rfl; kernel_rfl; kernel_rfl
    apply V.Steps.op; kernel_rfl; kernel_rfl; kernel_rfl; exact ((V.st_ari (op := .sub) (x := .tmp 30) (y := .const (.int .i64 1)) (k := .i64) (m := idx) (n := 1) (r := idx - 1) (by kernel_rfl) (by kernel_rfl) (by kernel_rfl) (by simp only [V.ariI, V.wr_i64, Option.some.injEq]; omega)))
    apply V.Steps.auto; kernel_rfl; kernel_rfl; kernel_rfl; kernel_rfl
    exact V.Steps.done (by kernel_rfl) rfl
  · kernel_rfl
  · exact hr
  · kernel_rfl
  · kernel_rfl
  · kernel_rfl
  · kernel_rfl

/-! The loop. -/
def fill : Nat → Int → List D → List D
  | 0, _, t => t
  | j + 1, u, t => fill j (sh8 u) (t.set j (lo8 u))
def shl8 : Nat → Int → Int
  | 0, u => u
  | j + 1, u => shl8 j (sh8 u)
theorem fill_length : ∀ (j : Nat) (u : Int) (t : List D), (fill j u t).length = t.length
  | 0, _, _ => rfl
  | j + 1, u, t => by rw [fill, fill_length j, List.length_set]
def rowC (l t : List D) : List V.U := l.map .dat ++ t.map .dat
theorem refsC (l t : List D) : V.refsL (rowC l t) = [] := by unfold rowC; rw [V.refsL_app, V.refsL_dats, V.refsL_dats]; rfl
theorem setC (l t : List D) (q : Nat) (d : D) : (rowC l t).set (l.length + q) (.dat d) = rowC l (t.set q d) := by
  simp [rowC, List.set_append, List.map_set]
theorem putRound (l t : List D) (u : Int) (q : Nat) (b : V.U) (hq : q < t.length) (hb : l.length + t.length ≤ 1000000000000) :
    V.Run Tryz.prog pL (P4 l u (l.length + t.length) (rowC l t) ((l.length + q : Nat) : Int) b) .normal (P4 l (sh8 u) (l.length + t.length) (rowC l (t.set q (lo8 u))) (((l.length + q : Nat) : Int) - 1) .junk) := by
  have eL : pL = .seq (.seq pR6 (.cond (.tmp 29) .skip (.exit 0))) (.seq (.block 1 (.seq pR8 pR9)) pR7) := by kernel_rfl
  rw [eL]
  have r6 := put6 l u (l.length + t.length) (rowC l t) ((l.length + q : Nat) : Int) b (refsC l t) true (by simp [V.cmpI]; omega)
  have rc : V.Run Tryz.prog (.cond (.tmp 29) .skip (.exit 0)) (P4 l u (l.length + t.length) (rowC l t) ((l.length + q : Nat) : Int) (.dat (.bool true))) .normal _ := V.Run.cond_true rfl (V.Run.skip (goodE V.sig0) regs follows)
  have r8 := put8 l u (l.length + t.length) q (rowC l t) (.dat (.bool true)) (by rw [setC]; exact refsC _ _) (by omega) (by simp [rowC])
  rw [setC] at r8
  have r9 := put9 l u (l.length + t.length) (rowC l (t.set q (lo8 u))) ((l.length + q : Nat) : Int) .junk (refsC _ _)
  have r7 := put7 l (sh8 u) (l.length + t.length) (rowC l (t.set q (lo8 u))) ((l.length + q : Nat) : Int) .junk (refsC _ _) (by omega) (by omega)
  exact V.Run.seq (V.Run.seq r6 rc) (V.Run.seq (V.Run.block (id := 1) (V.Run.seq r8 r9)) r7)
theorem putEnd (l t : List D) (u : Int) (b : V.U) : V.Run Tryz.prog pL (P4 l u (l.length + t.length) (rowC l t) ((l.length : Int) - 1) b) (.exit 0) (P4 l u (l.length + t.length) (rowC l t) ((l.length : Int) - 1) (.dat (.bool false))) := by
  have eL : pL = .seq (.seq pR6 (.cond (.tmp 29) .skip (.exit 0))) (.seq (.block 1 (.seq pR8 pR9)) pR7) := by kernel_rfl
  rw [eL]
  have r6 := put6 l u (l.length + t.length) (rowC l t) ((l.length : Int) - 1) b (refsC l t) false (by simp [V.cmpI]; omega)
  have rc : V.Run Tryz.prog (.cond (.tmp 29) .skip (.exit 0)) (P4 l u (l.length + t.length) (rowC l t) ((l.length : Int) - 1) (.dat (.bool false))) (.exit 0) _ := V.Run.cond_false rfl (V.Run.exit (goodE V.sig0) regs follows)
  exact V.Run.seq_out (V.Run.seq r6 rc) (by simp)
theorem putLoop (l : List D) : ∀ (j : Nat) (t : List D) (u : Int) (b : V.U), j ≤ t.length → l.length + t.length ≤ 1000000000000 →
    ∃ u' : Int, V.LRun Tryz.prog pL (P4 l u (l.length + t.length) (rowC l t) ((l.length : Int) + j - 1) b) (.exit 0) (P4 l u' (l.length + t.length) (rowC l (fill j u t)) ((l.length : Int) - 1) (.dat (.bool false)))
  | 0, t, u, b, _, hb => by
    have e : (l.length : Int) + (0 : Nat) - 1 = (l.length : Int) - 1 := by omega
    rw [e]
    exact ⟨u, V.LRun.out (putEnd l t u b) (by simp)⟩
  | j + 1, t, u, b, hj, hb => by
    have r := putRound l t u j b (by omega) hb
    have e : (l.length : Int) + ((j + 1 : Nat) : Int) - 1 = ((l.length + j : Nat) : Int) := by omega
    have e2 : ((l.length + j : Nat) : Int) - 1 = (l.length : Int) + (j : Int) - 1 := by omega
    rw [e]
    rw [e2] at r
    obtain ⟨u', h⟩ := putLoop l j (t.set j (lo8 u)) (sh8 u) .junk (by rw [List.length_set]; omega) (by rw [List.length_set]; exact hb)
    rw [List.length_set] at h
    exact ⟨u', V.LRun.step r h⟩

/-! All of it. -/
def putB (z : Nat) (u : Int) : List D := fill z u (List.replicate z (.int .u8 0))
theorem putB_length (z : Nat) (u : Int) : (putB z u).length = z := by rw [putB, fill_length, List.length_replicate]
theorem eT : pT = .seq (.region 10 (ops (cf pT)) false) .ret := by kernel_rfl
theorem put10 (l : List D) (u : Int) (n : Nat) (cells : List V.U) (idx : Int) (b : V.U) (hr : V.refsL cells = []) : V.Run Tryz.prog pT (P4 l u n cells idx b) .ret (P5 n cells) := by
  have hg := pRegs.2.2.2.2.2
  rw [eT] at hg
  rw [eT]
  have h1 : V.Run Tryz.prog (.region 10 (ops (cf pT)) false) (P4 l u n cells idx b) .normal (P5 n cells) := by
    apply V.Run.steps1 (o := 88) (ob := oR cells) (keep := k5) (nx := 104) (goodE V.sig0) regs follows hg.1
    · apply V.Steps.auto; kernel_rfl; kernel_rfl; kernel_rfl; kernel_rfl
      apply V.Steps.auto; kernel_rfl; kernel_rfl; kernel_rfl; kernel_rfl
      exact V.Steps.done (by kernel_rfl) rfl
    · kernel_rfl
    · exact hr
    · kernel_rfl
    · kernel_rfl
    · kernel_rfl
    · kernel_rfl
  exact V.Run.seq h1 (V.Run.ret (goodE V.sig0) regs follows)
theorem putHolds (l : List D) (u : Int) (z : Nat) (hz : z ≤ 8) (h0 : 0 < l.length) (hl : ∀ d ∈ l, d.one = true) (hb : l.length ≤ 100000000000) : V.Holds Tryz.prog 90 [.lst l, .int .u64 u, .int .i64 z] [.lst (l ++ putB z u)] := by
  obtain ⟨u', hL⟩ := putLoop l z (List.replicate z (.int .u8 0)) u .junk (by simp) (by simp; omega)
  have hlen : (List.replicate z (D.int .u8 0)).length = z := by simp
  rw [hlen] at hL
  have r4 := put4 l u z h0 hl
  have hc : C4 l z = rowC l (List.replicate z (.int .u8 0)) := C4_eq l z
  rw [hc] at r4
  have r5 := put5 l u (l.length + z) (rowC l (List.replicate z (.int .u8 0))) (refsC _ _) (by omega) (by omega)
  have e : (((l.length + z : Nat) : Int) - 1) = (l.length : Int) + z - 1 := by omega
  rw [e] at r5
  have rT := put10 l u' (l.length + z) (rowC l (putB z u)) ((l.length : Int) - 1) (.dat (.bool false)) (refsC _ _)
  have rAll : V.Run Tryz.prog pA (P0 l u z) .ret (P5 (l.length + z) (rowC l (putB z u))) := by
    rw [pShape]
    have eL : pL = .seq (.seq pR6 (.cond (.tmp 29) .skip (.exit 0))) (.seq (.block 1 (.seq pR8 pR9)) pR7) := by kernel_rfl
    rw [← eL]
    exact V.Run.seq (put0 l u z) (V.Run.seq (V.Run.seq (put1 l u z (by omega) (by omega)) (put1c l u z)) (V.Run.seq (put3 l u z (by omega)) (V.Run.seq r4 (V.Run.seq (V.Run.seq r5 (V.Run.block_to (V.Run.loop hL))) rT))))
  have hn : l.length + z = (l ++ putB z u).length := by rw [List.length_append, putB_length]
  have e0 : P0 l u z = ⟨([.lst l, .int .u64 u, .int .i64 z] : List D).map .dat ++ List.replicate (Tryz.f90.ntmps - (([.lst l, .int .u64 u, .int .i64 z] : List D).map V.U.dat).length) .undef, [], 0⟩ := by kernel_rfl
  rw [e0] at rAll
  refine V.holds_of_run Tryz.func90 pBody (us := [.own 88 0 0 (l.length + z)]) (rs := [(.lst (l ++ putB z u), [88])]) rAll (.inr rfl) (by kernel_rfl) ?_
  rw [List.mapM_cons]
  rw [hn]
  have ht := V.toD_row (g := V.getO (P5 (l ++ putB z u).length (rowC l (putB z u))).st) (k := 38) (o := 88) (gn := 0) (ob := oR (rowC l (putB z u))) (l := l ++ putB z u) rfl rfl (by simp [oR, rowC]) rfl rfl
  rw [ht]
  rfl

end Go.Proofs.YtjmfkfmcigdgbaaGreat.Say
