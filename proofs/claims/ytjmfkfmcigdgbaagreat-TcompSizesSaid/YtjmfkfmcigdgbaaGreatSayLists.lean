/- Lists of one value again and again: how deep they are. Mine. -/
import Derived.Test.YtjmfkfmcigdgbaaGreatSayBase
set_option linter.unusedVariables false
set_option linter.unusedSimpArgs false
namespace Go.Proofs.YtjmfkfmcigdgbaaGreat.Say
open Go Go.RowKit
open V (D)

def mt : D := V.txt []
def vv (k n : Int) : D := .agg [.int .i64 k, .int .i64 n, mt, .nil, .nil]
def rl (k n : Int) : Nat → D
  | 0 => .nil
  | m + 1 => .lst (List.replicate (m + 1) (vv k n))
def wl (k n : Int) (m : Nat) : D := .agg [.int .i64 15, .int .i64 0, mt, rl k n m, .nil]
def tx : Int → D
  | 2 => V.txt [98, 111, 111, 108]
  | 3 => V.txt [105, 56]
  | 6 => V.txt [105, 49, 54]
  | 8 => V.txt [105, 51, 50]
  | 10 => V.txt [105, 54, 52]
  | _ => V.txt [100, 111, 117, 98, 108, 101]
def sch : D := .agg [.nil, .nil, .nil]
/-- 1, 2: a value's kind and number; 3: a place; 4: the list; 5: its length; 6: the next place -/
def sg (k n : Int) (m i : Nat) : Nat → D
  | 1 => .int .i64 k
  | 2 => .int .i64 n
  | 3 => .int .i64 i
  | 4 => rl k n m
  | 5 => .int .i64 m
  | 6 => .int .i64 (i + 1)
  | 9 => tx k
  | _ => .nil
theorem oneTx (k : Int) : (tx k).one = true := by unfold tx; split <;> rfl
theorem noTx (k : Int) : V.noSym (tx k) = true := by unfold tx; split <;> rfl
theorem noReps (k n : Int) : ∀ m : Nat, V.noSyms (List.replicate m (vv k n)) = true
  | 0 => rfl
  | m + 1 => by simp only [List.replicate, V.noSyms, noReps k n m, Bool.and_true]; rfl
theorem noRl (k n : Int) (m : Nat) : V.noSym (rl k n m) = true := by
  cases m with
  | zero => rfl
  | succ m => simp only [rl, V.noSym]; exact noReps k n _
theorem oneRl (k n : Int) (m : Nat) : (rl k n m).one = true := by cases m <;> rfl
theorem plainSg (k n : Int) (m i : Nat) : V.Plain (sg k n m i) := by
  constructor
  · intro j
    unfold sg
    split <;> first | rfl | exact oneRl _ _ _ | exact oneTx _
  · intro j
    unfold sg
    split <;> first | rfl | exact noRl _ _ _ | exact noTx _
def ev : D := .agg [.sym 1, .sym 2, mt, .nil, .nil]
def kinds : List Int := [2, 3, 6, 8, 10, 4]
def gL : List V.Gact := [.len 27 (.sym 4) (.sym 5)]
def gI : List V.Gact := .ix 27 (.sym 4) (.sym 3) [.sym 1, .sym 2, mt, .nil, .nil] :: gL
def fIn : List V.Fact := [.cmp .lss (.sym 3) (.sym 5) true, .ari .add (.sym 3) (.int .i64 1) (.sym 6)]
def fOut : List V.Fact := [.cmp .lss (.sym 3) (.sym 5) false]
theorem gLOk (k n : Int) (m i : Nat) : ∀ f ∈ gL, @V.Gact.ok (V.sigOf (sg k n m i)) Tryz.prog f := by
  letI : V.Sig := V.sigOf (sg k n m i)
  intro f hf
  simp only [gL, List.mem_cons, List.not_mem_nil, or_false] at hf
  subst hf
  refine ⟨m, rfl, .inl ⟨⟨_, Tryz.underlying27⟩, ?_⟩⟩
  cases m with
  | zero => exact .inl ⟨rfl, rfl⟩
  | succ m => exact .inr ⟨_, rfl, by simp⟩
theorem sz29 : V.sizeT Tryz.prog 29 = some 5 := by kernel_rfl
theorem gIOk (k n : Int) (m i : Nat) (hi : i < m) : ∀ f ∈ gI, @V.Gact.ok (V.sigOf (sg k n m i)) Tryz.prog f := by
  letI : V.Sig := V.sigOf (sg k n m i)
  intro f hf
  simp only [gI, List.mem_cons] at hf
  rcases hf with rfl | hf
  · obtain ⟨q, rfl⟩ : ∃ q, m = q + 1 := ⟨m - 1, by omega⟩
    refine ⟨.i64, i, List.replicate (q + 1) (vv k n), vv k n, 29, rfl, rfl, by omega, by simp [hi], Tryz.underlying27, sz29, by show 0 < 5; omega, rfl, ?_⟩
    intro j c y hc hy
    simp only [vv, V.D.cells] at hy
    match j with
    | 0 => simp at hc hy; subst hc; subst hy; exact .inr ⟨1, rfl, rfl⟩
    | 1 => simp at hc hy; subst hc; subst hy; exact .inr ⟨2, rfl, rfl⟩
    | 2 => simp at hc hy; subst hc; subst hy; exact .inl rfl
    | 3 => simp at hc hy; subst hc; subst hy; exact .inl rfl
    | 4 => simp at hc hy; subst hc; subst hy; exact .inl rfl
    | j + 5 => simp at hc
  · exact gLOk k n m i f hf
theorem fInOk (k n : Int) (m i : Nat) (hi : i < m) (hm : m < 1000) : ∀ f ∈ fIn, @V.Fact.ok (V.sigOf (sg k n m i)) Tryz.prog f := by
  letI : V.Sig := V.sigOf (sg k n m i)
  intro f hf
  simp only [fIn, List.mem_cons, List.not_mem_nil, or_false] at hf
  rcases hf with rfl | rfl
  · exact V.okc (k := .i64) (m := i) (n := m) rfl rfl (V.c_lssT (by omega))
  · exact V.oka (k := .i64) (m := i) (n := 1) (r := i + 1) rfl rfl (by simp only [V.ariI, V.wr_i64, Option.some.injEq]; omega) rfl
theorem fOutOk (k n : Int) (m : Nat) : ∀ f ∈ fOut, @V.Fact.ok (V.sigOf (sg k n m m)) Tryz.prog f := by
  letI : V.Sig := V.sigOf (sg k n m m)
  intro f hf
  simp only [fOut, List.mem_cons, List.not_mem_nil, or_false] at hf
  subst hf
  exact V.okc (k := .i64) (m := m) (n := m) rfl rfl (V.c_lssF (by omega))

/-! How deep. -/
set_option maxRecDepth 1000000 in
theorem runD0 : kinds.all (fun k => V.tells Tryz.prog an3 400 52 [.agg [.int .i64 k, .sym 2, mt, .nil, .nil]] [.int .i64 0]) = true := by kernel_rfl
theorem goodAny (s : V.Sig) : @V.Good s Tryz.prog an3 := @V.Good.mk s _ _ named (@V.spec_of_tbl s _ _ (V.TblOk.any tno to3)) (fun _ _ _ _ h => nomatch h) (@V.call_none s _ _ rfl)
theorem depth0 {k : Int} (hk : k ∈ kinds) (n : Int) : @V.Holds V.sig0 Tryz.prog 52 [vv k n] [.int .i64 0] :=
  V.Holds.ins (plainSg k n 0 0) (@V.holds_of_tells (V.sigOf (sg k n 0 0)) _ _ (goodAny _) regs follows _ _ _ _ (List.all_eq_true.1 runD0 k hk))
noncomputable def cD : Code := match Tryz.f52.body with
  | some c => c
  | none => .skip
noncomputable def dA : Code := cf cD
noncomputable def dB : Code := cf (cs cD)
noncomputable def dC : Code := cf (cs (cs cD))
noncomputable def dY : Code := cf (cf (cs (cs (cs cD))))
noncomputable def dL : Code := cb (cb (cs (cf (cs (cs (cs cD))))))
noncomputable def dT : Code := cs (cs (cs (cs cD)))
theorem bodyD : Tryz.f52.body = some cD := by kernel_rfl
theorem shapeD : cD = .seq dA (.seq dB (.seq dC (.seq (.seq dY (.block 0 (.loop dL))) dT))) := by kernel_rfl
theorem regsD : V.Regs dA ∧ V.Regs dB ∧ V.Regs dC ∧ (V.Regs dY ∧ V.Regs dL) ∧ V.Regs dT := by
  have h := regs 52 Tryz.f52 cD Tryz.func52 bodyD
  rw [shapeD] at h
  exact h
def obD (l : D) : V.Obj := ⟨29, 5, true, 0, false, [.dat (.int .i64 15), .dat (.int .i64 0), .dat mt, .dat l, .dat .nil]⟩
def SD (l n i : D) : V.St := ⟨List.replicate 3 .junk ++ (.dat (.int .i64 0) :: (List.replicate 6 .junk ++ ([.dat l, .dat n, .dat i] ++ List.replicate 10 .junk))), [(0, obD l)], 32⟩
def SDr (l : D) : V.St := ⟨List.replicate 2 .junk ++ (.dat (.int .i64 1) :: List.replicate 20 .junk), [(0, obD l)], 32⟩
theorem inSD (σ : Nat → D) (l n i : D) : V.inS σ (SD l n i) = SD (V.inD σ l) (V.inD σ n) (V.inD σ i) := by
  simp only [SD, V.inS, V.inUs_eq, List.map_append, List.map_cons, List.map_nil, V.inU, V.inD, V.inDs, List.map_replicate, V.inSt, V.inO, obD, mt, V.txt]
theorem inSDr (σ : Nat → D) (l : D) : V.inS σ (SDr l) = SDr (V.inD σ l) := by
  simp only [SDr, V.inS, V.inUs_eq, List.map_append, List.map_cons, List.map_nil, V.inU, V.inD, List.map_replicate, V.inSt, V.inO, obD, mt, V.txt]
def kD : List Bool := [false, false, false, true, false, false, false, false, false, false, true, true, true]
def kDr : List Bool := [false, false, true]
def tD : V.Tbl := [(52, [([ev], [.int .i64 0])])]
def aD (f : List V.Fact) (g : List V.Gact) : V.An := { an3 with spec := V.inTbl tD, orc := V.orcOr (V.orcOf f) (V.orcG g) }
set_option maxRecDepth 1000000 in
theorem runDin : V.uptoD Tryz.prog (aD fIn gI) 400 dL (SD (.sym 4) (.sym 5) (.sym 3)) [0] kD 32 = some (.normal, SD (.sym 4) (.sym 5) (.sym 6)) := by kernel_rfl
set_option maxRecDepth 1000000 in
theorem runDout : V.uptoD Tryz.prog (aD fOut gL) 400 dL (SD (.sym 4) (.sym 5) (.sym 3)) [0] kD 32 = some (.exit 0, SD (.sym 4) (.sym 5) (.sym 3)) := by kernel_rfl
def nd : Option (V.X × V.St) → V.St
  | some (_, s) => s
  | none => default
def zD : V.St := ⟨.dat (.agg [.int .i64 15, .int .i64 0, mt, .sym 4, .nil]) :: List.replicate 22 .undef, [], 0⟩
noncomputable def zD1 : V.St := nd (V.exec Tryz.prog an3 400 dA zD)
set_option maxRecDepth 1000000 in
theorem runDA : V.exec Tryz.prog an3 400 dA zD = some (.normal, zD1) := by kernel_rfl
noncomputable def zD2 : V.St := nd (V.exec Tryz.prog an3 400 dB zD1)
set_option maxRecDepth 1000000 in
theorem runDB : V.exec Tryz.prog an3 400 dB zD1 = some (.normal, zD2) := by kernel_rfl
noncomputable def zD3 : V.St := nd (V.exec Tryz.prog an3 400 dC zD2)
set_option maxRecDepth 1000000 in
theorem runDC : V.exec Tryz.prog an3 400 dC zD2 = some (.normal, zD3) := by kernel_rfl
set_option maxRecDepth 1000000 in
theorem runDY : V.uptoD Tryz.prog (aD [] gL) 400 dY zD3 [0] kD 32 = some (.normal, SD (.sym 4) (.sym 5) (.int .i64 0)) := by kernel_rfl
set_option maxRecDepth 1000000 in
theorem runDT : V.uptoD Tryz.prog an3 400 dT (SD (.sym 4) (.sym 5) (.sym 3)) [0] kDr 32 = some (.ret, SDr (.sym 4)) := by kernel_rfl
theorem tDOk {k : Int} (hk : k ∈ kinds) (n : Int) (m i : Nat) : @V.TblOk (V.sigOf (sg k n m i)) Tryz.prog tD := by
  have h1 : @V.Holds (V.sigOf (sg k n m i)) Tryz.prog 52 [ev] [.int .i64 0] := V.Holds.outs (plainSg k n m i) (depth0 hk n)
  letI : V.Sig := V.sigOf (sg k n m i)
  exact V.TblOk.cons (V.RowOk.cons h1 V.RowOk.nil) V.TblOk.nil
theorem goodD {k : Int} (hk : k ∈ kinds) {n : Int} {m i : Nat} {f : List V.Fact} {g : List V.Gact} (hf : ∀ x ∈ f, @V.Fact.ok (V.sigOf (sg k n m i)) Tryz.prog x) (hg : ∀ x ∈ g, @V.Gact.ok (V.sigOf (sg k n m i)) Tryz.prog x) : @V.Good (V.sigOf (sg k n m i)) Tryz.prog (aD f g) :=
  @V.Good.mk (V.sigOf (sg k n m i)) _ _ named (@V.spec_of_tbl (V.sigOf (sg k n m i)) _ _ (tDOk hk n m i)) (@V.orc_both (V.sigOf (sg k n m i)) _ _ _ hf hg _ rfl) (@V.call_none (V.sigOf (sg k n m i)) _ _ rfl)
/-- the state at the head of the loop -/
def HD (k n : Int) (m i : Nat) : V.St := SD (rl k n m) (.int .i64 m) (.int .i64 i)
theorem loopD {k : Int} (hk : k ∈ kinds) (n : Int) (m : Nat) (hm : m < 1000) : ∀ q i : Nat, i + q = m → @V.LRun V.sig0 Tryz.prog dL (HD k n m i) (.exit 0) (HD k n m m) := by
  intro q
  induction q with
  | zero =>
    intro i hi
    obtain rfl : i = m := by omega
    have r := V.Run.ins (plainSg k n i i) (@V.Run.of_uptoD (V.sigOf (sg k n i i)) _ _ (goodD hk (fOutOk k n i) (gLOk k n i i)) regs follows _ _ _ _ _ _ _ _ regsD.2.2.2.1.2 runDout)
    rw [inSD] at r
    exact V.LRun.out r (by simp)
  | succ q ih =>
    intro i hi
    have r := V.Run.ins (plainSg k n m i) (@V.Run.of_uptoD (V.sigOf (sg k n m i)) _ _ (goodD hk (fInOk k n m i (by omega) hm) (gIOk k n m i (by omega))) regs follows _ _ _ _ _ _ _ _ regsD.2.2.2.1.2 runDin)
    rw [inSD, inSD] at r
    have r' : @V.Run V.sig0 Tryz.prog dL (HD k n m i) .normal (HD k n m (i + 1)) := r
    exact V.LRun.step r' (ih (i + 1) (by omega))
theorem depthHolds {k : Int} (hk : k ∈ kinds) (n : Int) (m : Nat) (hm : m < 1000) : @V.Holds V.sig0 Tryz.prog 52 [wl k n m] [.int .i64 1] := by
  have rA := V.Run.ins (plainSg k n m 0) (@V.Run.of_exec (V.sigOf (sg k n m 0)) _ _ (goodAny _) regs follows _ _ _ _ _ regsD.1 runDA)
  have rB := V.Run.ins (plainSg k n m 0) (@V.Run.of_exec (V.sigOf (sg k n m 0)) _ _ (goodAny _) regs follows _ _ _ _ _ regsD.2.1 runDB)
  have rC := V.Run.ins (plainSg k n m 0) (@V.Run.of_exec (V.sigOf (sg k n m 0)) _ _ (goodAny _) regs follows _ _ _ _ _ regsD.2.2.1 runDC)
  have rY := V.Run.ins (plainSg k n m 0) (@V.Run.of_uptoD (V.sigOf (sg k n m 0)) _ _ (goodD hk (f := []) (fun _ h => absurd h (by simp)) (gLOk k n m 0)) regs follows _ _ _ _ _ _ _ _ regsD.2.2.2.1.1 runDY)
  have rT := V.Run.ins (plainSg k n m m) (@V.Run.of_uptoD (V.sigOf (sg k n m m)) _ _ (goodAny _) regs follows _ _ _ _ _ _ _ _ regsD.2.2.2.2 runDT)
  rw [inSD] at rY rT
  rw [inSDr] at rT
  have rY' : @V.Run V.sig0 Tryz.prog dY (V.inS (sg k n m 0) zD3) .normal (HD k n m 0) := rY
  have rT' : @V.Run V.sig0 Tryz.prog dT (HD k n m m) .ret (SDr (rl k n m)) := rT
  have rL := V.Run.block_to (id := 0) (V.Run.loop (loopD hk n m hm m 0 (by omega)))
  have rAll : @V.Run V.sig0 Tryz.prog cD (V.inS (sg k n m 0) zD) .ret (SDr (rl k n m)) := by
    rw [shapeD]
    exact V.Run.seq rA (V.Run.seq rB (V.Run.seq rC (V.Run.seq (V.Run.seq rY' rL) rT')))
  exact @V.holds_of_run V.sig0 _ _ _ _ Tryz.func52 bodyD [wl k n m] _ _ rAll (.inr rfl) [.dat (.int .i64 1)] (by kernel_rfl) [(.int .i64 1, [])] rfl

/-! Whether all of a list's values are of the type. -/
def wideOf : Int → IntKind
  | 3 => .i8
  | 6 => .i16
  | 8 => .i32
  | _ => .i64
def fits (k n : Int) : Bool := if k = 2 then decide (n = 0 ∨ n = 1) else decide ((wideOf k).wrap n = n)
/-- 2: a number; 7: of the lesser kind; 8: back -/
def sc (j : IntKind) (n : Int) : Nat → D
  | 2 => .int .i64 n
  | 7 => .int j (j.wrap n)
  | 8 => .int .i64 (IntKind.i64.wrap (j.wrap n))
  | _ => .nil
theorem plainSc (j : IntKind) (n : Int) : V.Plain (sc j n) := by
  constructor
  · intro i
    unfold sc
    split <;> rfl
  · intro i
    unfold sc
    split <;> rfl
def fC (t : TypeId) (r : Bool) : List V.Fact := [.conv 2 t (.sym 2) (.sym 7), .conv t 2 (.sym 7) (.sym 8), .cmp .eql (.sym 2) (.sym 8) r]
def nv (k : Int) : D := .agg [.int .i64 k, .sym 2, mt, .nil, .nil]
def aC (t : TypeId) (r : Bool) : V.An := { an3 with orc := V.orcOf (fC t r) }
set_option maxRecDepth 1000000 in
theorem runC8 : V.tells Tryz.prog (aC 135 true) 400 15 [sch, tx 3, nv 3] [.bool true] = true := by kernel_rfl
set_option maxRecDepth 1000000 in
theorem runC16 : V.tells Tryz.prog (aC 124 true) 400 15 [sch, tx 6, nv 6] [.bool true] = true := by kernel_rfl
set_option maxRecDepth 1000000 in
theorem runC32 : V.tells Tryz.prog (aC 21 true) 400 15 [sch, tx 8, nv 8] [.bool true] = true := by kernel_rfl
set_option maxRecDepth 1000000 in
theorem runC64 : V.tells Tryz.prog an3 400 15 [sch, tx 10, nv 10] [.bool true] = true := by kernel_rfl
set_option maxRecDepth 1000000 in
theorem runCd : V.tells Tryz.prog an3 400 15 [sch, tx 4, nv 4] [.bool true] = true := by kernel_rfl
set_option maxRecDepth 1000000 in
theorem runCb0 : V.tells Tryz.prog an3 400 15 [sch, tx 2, vv 2 0] [.bool true] = true := by kernel_rfl
set_option maxRecDepth 1000000 in
theorem runCb1 : V.tells Tryz.prog an3 400 15 [sch, tx 2, vv 2 1] [.bool true] = true := by kernel_rfl
theorem fCOk {j : IntKind} {t : TypeId} (ht : Tryz.prog.underlying t = some (.int j)) {n : Int} {r : Bool} (hr : decide (n = IntKind.i64.wrap (j.wrap n)) = r) : ∀ f ∈ fC t r, @V.Fact.ok (V.sigOf (sc j n)) Tryz.prog f := by
  letI : V.Sig := V.sigOf (sc j n)
  intro f hf
  simp only [fC, List.mem_cons, List.not_mem_nil, or_false] at hf
  rcases hf with rfl | rfl | rfl
  · exact V.okv (k := .i64) (j := j) (n := n) Tryz.underlying2 rfl ht rfl
  · exact V.okv (k := j) (j := .i64) (n := j.wrap n) ht rfl Tryz.underlying2 rfl
  · exact V.okc (k := .i64) (m := n) (n := IntKind.i64.wrap (j.wrap n)) rfl rfl (by simp only [V.cmpI, Option.some.injEq]; exact hr)
theorem goodF {j : IntKind} {t : TypeId} (ht : Tryz.prog.underlying t = some (.int j)) {n : Int} {r : Bool} (hr : decide (n = IntKind.i64.wrap (j.wrap n)) = r) : @V.Good (V.sigOf (sc j n)) Tryz.prog (aC t r) :=
  @V.Good.mk (V.sigOf (sc j n)) _ _ named (@V.spec_of_tbl (V.sigOf (sc j n)) _ _ (V.TblOk.any tno to3)) (@V.orc_of (V.sigOf (sc j n)) _ _ (fCOk ht hr) _ rfl) (@V.call_none (V.sigOf (sc j n)) _ _ rfl)
theorem wrapFit {j : IntKind} {n : Int} (hi : IntKind.i64.wrap n = n) (h : j.wrap n = n) : decide (n = IntKind.i64.wrap (j.wrap n)) = true := by rw [h, hi]; simp
theorem check0 {k : Int} (hk : k ∈ kinds) {n : Int} (hi : IntKind.i64.wrap n = n) (hf : fits k n = true) : @V.Holds V.sig0 Tryz.prog 15 [sch, tx k, vv k n] [.bool true] := by
  simp only [kinds, List.mem_cons, List.not_mem_nil, or_false] at hk
  rcases hk with rfl | rfl | rfl | rfl | rfl | rfl
  · have h : n = 0 ∨ n = 1 := by simpa [fits] using hf
    rcases h with rfl | rfl
    · exact @V.holds_of_tells V.sig0 _ _ (goodAny _) regs follows _ _ _ _ runCb0
    · exact @V.holds_of_tells V.sig0 _ _ (goodAny _) regs follows _ _ _ _ runCb1
  · have h : IntKind.i8.wrap n = n := by simpa [fits, wideOf] using hf
    exact V.Holds.ins (plainSc .i8 n) (@V.holds_of_tells (V.sigOf (sc .i8 n)) _ _ (goodF Tryz.underlying135 (wrapFit hi h)) regs follows _ _ _ _ runC8)
  · have h : IntKind.i16.wrap n = n := by simpa [fits, wideOf] using hf
    exact V.Holds.ins (plainSc .i16 n) (@V.holds_of_tells (V.sigOf (sc .i16 n)) _ _ (goodF Tryz.underlying124 (wrapFit hi h)) regs follows _ _ _ _ runC16)
  · have h : IntKind.i32.wrap n = n := by simpa [fits, wideOf] using hf
    exact V.Holds.ins (plainSc .i32 n) (@V.holds_of_tells (V.sigOf (sc .i32 n)) _ _ (goodF Tryz.underlying21 (wrapFit hi h)) regs follows _ _ _ _ runC32)
  · exact V.Holds.ins (plainSc .i64 n) (@V.holds_of_tells (V.sigOf (sc .i64 n)) _ _ (goodAny _) regs follows _ _ _ _ runC64)
  · exact V.Holds.ins (plainSc .i64 n) (@V.holds_of_tells (V.sigOf (sc .i64 n)) _ _ (goodAny _) regs follows _ _ _ _ runCd)

/-! All of a list's values. -/
noncomputable def cE : Code := match Tryz.f41.body with
  | some c => c
  | none => .skip
noncomputable def eA0 : Code := cf cE
noncomputable def eB : Code := cf (cf (cs cE))
noncomputable def eLp : Code := cb (cb (cs (cf (cs cE))))
noncomputable def eTl : Code := cs (cs cE)
theorem bodyE : Tryz.f41.body = some cE := by kernel_rfl
theorem shapeE : cE = .seq eA0 (.seq (.seq eB (.block 0 (.loop eLp))) eTl) := by kernel_rfl
theorem regsE : V.Regs eA0 ∧ (V.Regs eB ∧ V.Regs eLp) ∧ V.Regs eTl := by
  have h := regs 41 Tryz.f41 cE Tryz.func41 bodyE
  rw [shapeE] at h
  exact h
def obE : V.Obj := ⟨38, 3, true, 0, false, [.dat .nil, .dat .nil, .dat .nil]⟩
def SE (t l i : D) : V.St := ⟨[.junk, .dat t, .dat l, .junk, .dat (.int .i64 1), .ptr 0 0 0, .junk, .junk, .junk, .junk, .junk, .dat i] ++ List.replicate 16 .junk, [(0, obE)], 32⟩
def SEr : V.St := ⟨List.replicate 10 .junk ++ (.dat (.bool true) :: List.replicate 17 .junk), [(0, obE)], 32⟩
theorem inSE (σ : Nat → D) (t l i : D) : V.inS σ (SE t l i) = SE (V.inD σ t) (V.inD σ l) (V.inD σ i) := by
  simp only [SE, V.inS, V.inUs_eq, List.map_append, List.map_cons, List.map_nil, V.inU, V.inD, V.inDs, List.map_replicate, V.inSt, V.inO, obE]
theorem inSEr (σ : Nat → D) : V.inS σ SEr = SEr := by
  simp only [SEr, V.inS, V.inUs_eq, List.map_append, List.map_cons, List.map_nil, V.inU, V.inD, List.map_replicate, V.inSt, V.inO, obE]
def kE : List Bool := [false, true, true, false, true, true, false, false, false, false, false, true]
def kEr : List Bool := [false, false, false, false, false, false, false, false, false, false, true]
def tE : V.Tbl := [(15, [([sch, .sym 9, ev], [.bool true])])]
def aE (f : List V.Fact) (g : List V.Gact) : V.An := { an3 with spec := V.inTbl tE, orc := V.orcOr (V.orcOf f) (V.orcG g) }
set_option maxRecDepth 1000000 in
theorem runEin : V.uptoD Tryz.prog (aE fIn gI) 400 eLp (SE (.sym 9) (.sym 4) (.sym 3)) [0] kE 32 = some (.normal, SE (.sym 9) (.sym 4) (.sym 6)) := by kernel_rfl
set_option maxRecDepth 1000000 in
theorem runEout : V.uptoD Tryz.prog (aE fOut gL) 400 eLp (SE (.sym 9) (.sym 4) (.sym 3)) [0] kE 32 = some (.exit 0, SE (.sym 9) (.sym 4) (.sym 3)) := by kernel_rfl
def zE : V.St := ⟨[.dat sch, .dat (.sym 9), .dat (.sym 4), .dat (.int .i64 0), .dat (.int .i64 1)] ++ List.replicate 23 .undef, [], 0⟩
noncomputable def zE1 : V.St := nd (V.exec Tryz.prog an3 400 eA0 zE)
set_option maxRecDepth 1000000 in
theorem runEA : V.exec Tryz.prog an3 400 eA0 zE = some (.normal, zE1) := by kernel_rfl
set_option maxRecDepth 1000000 in
theorem runEB : V.uptoD Tryz.prog an3 400 eB zE1 [0] kE 32 = some (.normal, SE (.sym 9) (.sym 4) (.int .i64 0)) := by kernel_rfl
set_option maxRecDepth 1000000 in
theorem runET : V.uptoD Tryz.prog an3 400 eTl (SE (.sym 9) (.sym 4) (.sym 3)) [0] kEr 32 = some (.ret, SEr) := by kernel_rfl
theorem tEOk {k n : Int} (h : @V.Holds V.sig0 Tryz.prog 15 [sch, tx k, vv k n] [.bool true]) (m i : Nat) : @V.TblOk (V.sigOf (sg k n m i)) Tryz.prog tE := by
  have h1 : @V.Holds (V.sigOf (sg k n m i)) Tryz.prog 15 [sch, .sym 9, ev] [.bool true] := V.Holds.outs (plainSg k n m i) h
  letI : V.Sig := V.sigOf (sg k n m i)
  exact V.TblOk.cons (V.RowOk.cons h1 V.RowOk.nil) V.TblOk.nil
theorem goodE' {k n : Int} (h : @V.Holds V.sig0 Tryz.prog 15 [sch, tx k, vv k n] [.bool true]) {m i : Nat} {f : List V.Fact} {g : List V.Gact} (hf : ∀ x ∈ f, @V.Fact.ok (V.sigOf (sg k n m i)) Tryz.prog x) (hg : ∀ x ∈ g, @V.Gact.ok (V.sigOf (sg k n m i)) Tryz.prog x) : @V.Good (V.sigOf (sg k n m i)) Tryz.prog (aE f g) :=
  @V.Good.mk (V.sigOf (sg k n m i)) _ _ named (@V.spec_of_tbl (V.sigOf (sg k n m i)) _ _ (tEOk h m i)) (@V.orc_both (V.sigOf (sg k n m i)) _ _ _ hf hg _ rfl) (@V.call_none (V.sigOf (sg k n m i)) _ _ rfl)
/-- the state at the head of the loop -/
def HE (k n : Int) (m i : Nat) : V.St := SE (tx k) (rl k n m) (.int .i64 i)
theorem loopE {k n : Int} (h : @V.Holds V.sig0 Tryz.prog 15 [sch, tx k, vv k n] [.bool true]) (m : Nat) (hm : m < 1000) : ∀ q i : Nat, i + q = m → @V.LRun V.sig0 Tryz.prog eLp (HE k n m i) (.exit 0) (HE k n m m) := by
  intro q
  induction q with
  | zero =>
    intro i hi
    obtain rfl : i = m := by omega
    have r := V.Run.ins (plainSg k n i i) (@V.Run.of_uptoD (V.sigOf (sg k n i i)) _ _ (goodE' h (fOutOk k n i) (gLOk k n i i)) regs follows _ _ _ _ _ _ _ _ regsE.2.1.2 runEout)
    rw [inSE] at r
    exact V.LRun.out r (by simp)
  | succ q ih =>
    intro i hi
    have r := V.Run.ins (plainSg k n m i) (@V.Run.of_uptoD (V.sigOf (sg k n m i)) _ _ (goodE' h (fInOk k n m i (by omega) hm) (gIOk k n m i (by omega))) regs follows _ _ _ _ _ _ _ _ regsE.2.1.2 runEin)
    rw [inSE, inSE] at r
    have r' : @V.Run V.sig0 Tryz.prog eLp (HE k n m i) .normal (HE k n m (i + 1)) := r
    exact V.LRun.step r' (ih (i + 1) (by omega))
theorem eachHolds {k n : Int} (h : @V.Holds V.sig0 Tryz.prog 15 [sch, tx k, vv k n] [.bool true]) (m : Nat) (hm : m < 1000) : @V.Holds V.sig0 Tryz.prog 41 [sch, tx k, rl k n m, .int .i64 0, .int .i64 1] [.bool true] := by
  have rA := V.Run.ins (plainSg k n m 0) (@V.Run.of_exec (V.sigOf (sg k n m 0)) _ _ (goodAny _) regs follows _ _ _ _ _ regsE.1 runEA)
  have rB := V.Run.ins (plainSg k n m 0) (@V.Run.of_uptoD (V.sigOf (sg k n m 0)) _ _ (goodAny _) regs follows _ _ _ _ _ _ _ _ regsE.2.1.1 runEB)
  have rT := V.Run.ins (plainSg k n m m) (@V.Run.of_uptoD (V.sigOf (sg k n m m)) _ _ (goodAny _) regs follows _ _ _ _ _ _ _ _ regsE.2.2 runET)
  rw [inSE] at rB rT
  rw [inSEr] at rT
  have rB' : @V.Run V.sig0 Tryz.prog eB (V.inS (sg k n m 0) zE1) .normal (HE k n m 0) := rB
  have rT' : @V.Run V.sig0 Tryz.prog eTl (HE k n m m) .ret SEr := rT
  have rL := V.Run.block_to (id := 0) (V.Run.loop (loopE h m hm m 0 (by omega)))
  have rAll : @V.Run V.sig0 Tryz.prog cE (V.inS (sg k n m 0) zE) .ret SEr := by
    rw [shapeE]
    exact V.Run.seq rA (V.Run.seq (V.Run.seq rB' rL) rT')
  exact @V.holds_of_run V.sig0 _ _ _ _ Tryz.func41 bodyE [sch, tx k, rl k n m, .int .i64 0, .int .i64 1] _ _ rAll (.inr rfl) [.dat (.bool true)] (by kernel_rfl) [(.bool true, [])] rfl

/-! A list's check. -/
def lt : Int → D
  | 2 => V.txt [108, 105, 115, 116, 60, 98, 111, 111, 108, 62]
  | 3 => V.txt [108, 105, 115, 116, 60, 105, 56, 62]
  | 6 => V.txt [108, 105, 115, 116, 60, 105, 49, 54, 62]
  | 8 => V.txt [108, 105, 115, 116, 60, 105, 51, 50, 62]
  | 10 => V.txt [108, 105, 115, 116, 60, 105, 54, 52, 62]
  | _ => V.txt [108, 105, 115, 116, 60, 100, 111, 117, 98, 108, 101, 62]
def wn : D := .agg [.int .i64 15, .int .i64 0, mt, .sym 4, .nil]
def tK (k : Int) : V.Tbl := (41, [([sch, tx k, .sym 4, .int .i64 0, .int .i64 1], [.bool true])]) :: t3
def aK (k : Int) : V.An := { an3 with spec := V.inTbl (tK k) }
set_option maxRecDepth 1000000 in
theorem runCL : kinds.all (fun k => V.tells Tryz.prog (aK k) 400 15 [sch, lt k, wn] [.bool true]) = true := by kernel_rfl
theorem tKOk {k n : Int} (h : @V.Holds V.sig0 Tryz.prog 15 [sch, tx k, vv k n] [.bool true]) (m : Nat) (hm : m < 1000) : @V.TblOk (V.sigOf (sg k n m 0)) Tryz.prog (tK k) := by
  have e : V.inDs (sg k n m 0) [sch, tx k, .sym 4, .int .i64 0, .int .i64 1] = [sch, tx k, rl k n m, .int .i64 0, .int .i64 1] := by
    simp only [V.inDs, V.inD_no _ _ (noTx k), sch, V.inD]
    rfl
  have h1 : @V.Holds (V.sigOf (sg k n m 0)) Tryz.prog 41 [sch, tx k, .sym 4, .int .i64 0, .int .i64 1] [.bool true] := V.Holds.outs (plainSg k n m 0) (by rw [e]; exact eachHolds h m hm)
  exact @V.TblOk.cons (V.sigOf (sg k n m 0)) _ _ _ _ (@V.RowOk.cons (V.sigOf (sg k n m 0)) _ _ _ _ _ h1 (@V.RowOk.nil (V.sigOf (sg k n m 0)) _ _)) (@V.TblOk.any (V.sigOf (sg k n m 0)) _ _ tno to3)
theorem checkList {k n : Int} (hk : k ∈ kinds) (h : @V.Holds V.sig0 Tryz.prog 15 [sch, tx k, vv k n] [.bool true]) (m : Nat) (hm : m < 1000) : @V.Holds V.sig0 Tryz.prog 15 [sch, lt k, wl k n m] [.bool true] := by
  have hg : @V.Good (V.sigOf (sg k n m 0)) Tryz.prog (aK k) := @V.Good.mk (V.sigOf (sg k n m 0)) _ _ named (@V.spec_of_tbl (V.sigOf (sg k n m 0)) _ _ (tKOk h m hm)) (fun _ _ _ _ h => nomatch h) (@V.call_none (V.sigOf (sg k n m 0)) _ _ rfl)
  have r := V.Holds.ins (plainSg k n m 0) (@V.holds_of_tells (V.sigOf (sg k n m 0)) _ _ hg regs follows _ _ _ _ (List.all_eq_true.1 runCL k hk))
  have e : V.inDs (sg k n m 0) [sch, lt k, wn] = [sch, lt k, wl k n m] := by
    have hl : V.noSym (lt k) = true := by unfold lt; split <;> rfl
    simp only [V.inDs, V.inD_no _ _ hl, sch, wn, V.inD]
    rfl
  rw [e] at r
  exact r
end Go.Proofs.YtjmfkfmcigdgbaaGreat.Say
