/- proj.As of structs whose numbers rise: what it yields, whatever the numbers. Mine. -/
import Derived.Test.YtjofhegodknmaaaSayProjLoop
set_option linter.unusedVariables false
set_option linter.unusedSimpArgs false
namespace Go.Proofs.Ytjofhegodknmaaa.Say
open Go Go.RowKit
open V (D)

/-- what names stand for -/
structure Nm where
  kind : Int
  xs : List Int
  vs : List Int
  ks : List Int
  n : Int
  i : Nat
  id : Int
def valsD (n : Int) (vs : List Int) : D := rowD (vs.map fun _ => vn (nI n))
def sg (m : Nm) : Nat → D
  | 40 => nI m.n
  | 41 => nI m.i
  | 42 => nI (m.i + 1 : Nat)
  | 43 => nI m.vs.length
  | 44 => nI m.xs.length
  | 45 => nI m.i
  | 46 => nI (m.i + 1 : Nat)
  | 50 => fds m.xs
  | 51 => rowD (nIs m.vs)
  | 52 => valsD m.n m.vs
  | 60 => nI m.id
  | 61 => nI m.kind
  | 62 => nI m.id
  | j => nI (m.ks.getD j 0)
theorem rowD_one (l : List D) : (rowD l).one = true := by unfold rowD; split <;> rfl
theorem rowD_no {l : List D} (h : V.noSyms l = true) : V.noSym (rowD l) = true := by
  unfold rowD
  split
  · rfl
  · exact h
theorem no_map {α : Type} {f : α → D} (h : ∀ a, V.noSym (f a) = true) : ∀ l : List α, V.noSyms (l.map f) = true
  | [] => rfl
  | a :: r => by simp only [List.map_cons, V.noSyms, h a, no_map h r, Bool.and_self]
theorem no_fds (xs : List Int) : V.noSym (fds xs) = true := rowD_no (no_map (f := fun n => fd (nI n)) (fun _ => rfl) xs)
theorem no_nIs (xs : List Int) : V.noSym (rowD (nIs xs)) = true := rowD_no (no_map (f := nI) (fun _ => rfl) xs)
theorem no_vals (n : Int) (xs : List Int) : V.noSym (valsD n xs) = true := rowD_no (no_map (f := fun _ => vn (nI n)) (fun _ => rfl) xs)
theorem plainSg (m : Nm) : V.Plain (sg m) := by
  constructor
  · intro j
    unfold sg
    split <;> first | rfl | exact rowD_one _
  · intro j
    unfold sg
    split <;> first | rfl | exact no_fds _ | exact no_nIs _ | exact no_vals _ _
theorem inFlat (σ : Nat → D) (css : List (List D)) : (css.map (V.inDs σ)).flatten = css.flatten.map (V.inD σ) := by
  induction css with
  | nil => rfl
  | cons c r ih => simp only [List.map_cons, List.flatten_cons, List.map_append, ih, V.inDs_eq]
theorem inRowsP (σ : Nat → D) (css : List (List D)) (n : D) : V.inSt σ (rowsP css n) = rowsP (css.map (V.inDs σ)) (V.inD σ n) := by
  unfold rowsP
  rw [List.length_map]
  cases css.length with
  | zero => rfl
  | succ w =>
    have e : (css.map fun _ => [D.int .i64 3, n, mt, .nil, .nil]).map (V.inDs σ) = (css.map (V.inDs σ)).map fun _ => [D.int .i64 3, V.inD σ n, mt, .nil, .nil] := by
      rw [List.map_map, List.map_map]
      apply List.map_congr_left
      intro c _
      simp only [Function.comp_apply, mt, V.txt, V.inDs, V.inD]
    simp only [V.inSt, List.map_cons, List.map_nil, V.inO_rowOf, e]
theorem inLC (σ : Nat → D) (w : Nat) : V.inU σ (lC w) = lC w := by cases w <;> simp only [lC, V.inU, V.inD]
theorem inIC (σ : Nat → D) (w : Nat) : V.inU σ (iC w) = iC w := by cases w <;> simp only [iC, V.inU, V.inD]
theorem inBaseP (σ : Nat → D) (kind fs ids L : D) (w : Nat) : V.inSt σ (baseP kind fs ids L w) = baseP (V.inD σ kind) (V.inD σ fs) (V.inD σ ids) (V.inD σ L) w := by
  simp only [baseP, V.inSt, List.map_cons, List.map_nil, V.inO, mapO, valO, V.inUs, V.inU, V.inD, mt, V.txt, inLC, inIC]
theorem inSt_app (σ : Nat → D) (a b : V.Store) : V.inSt σ (a ++ b) = V.inSt σ a ++ V.inSt σ b := by simp [V.inSt]
theorem inPS (σ : Nat → D) (kind fs ids L n p i : D) (out : Bool) (css : List (List D)) : V.inS σ (PS kind fs ids L n p i out css) = PS (V.inD σ kind) (V.inD σ fs) (V.inD σ ids) (V.inD σ L) (V.inD σ n) (V.inD σ p) (V.inD σ i) out (css.map (V.inDs σ)) := by
  have e : nxP (css.map (V.inDs σ)) = nxP css := by unfold nxP; rw [List.length_map]
  simp only [PS, V.inS, inSt_app, inBaseP, inRowsP, List.length_map, e, tP0, V.inUs_eq, List.map_append, List.map_cons, List.map_nil, V.inU, V.inD, List.map_replicate]
theorem inQS (σ : Nat → D) (kind fs ids L n p i : D) (out : Bool) (css : List (List D)) : V.inS σ (QS kind fs ids L n p i out css) = QS (V.inD σ kind) (V.inD σ fs) (V.inD σ ids) (V.inD σ L) (V.inD σ n) (V.inD σ p) (V.inD σ i) out (css.map (V.inDs σ)) := by
  have e : nxP (css.map (V.inDs σ)) = nxP css := by unfold nxP; rw [List.length_map]
  simp only [QS, V.inS, inSt_app, inBaseP, inRowsP, List.length_map, e, tQ0, V.inUs_eq, List.map_append, List.map_cons, List.map_nil, V.inU, V.inD, List.map_replicate]
/-- the kept numbers as rows of one cell -/
def kC (ks : List Int) : List (List D) := ks.map fun k => [nI k]
theorem inNmC (m : Nm) (h : m.ks.length ≤ 12) : (nmC m.ks.length).map (V.inDs (sg m)) = kC m.ks := by
  unfold nmC kC
  apply List.ext_getElem
  · simp
  · intro i h1 h2
    simp at h1
    simp only [List.getElem_map, List.getElem_range, V.inDs, V.inD]
    have : sg m i = nI m.ks[i] := by
      unfold sg
      split <;> first | omega | simp [h1]
    rw [this]
/-- the state in the first loop, as it is -/
def PA (kind n : Int) (xs vs ks : List Int) (i : Nat) (out : Bool) : V.St := PS (nI kind) (fds xs) (rowD (nIs vs)) (valsD n vs) (nI n) (nI vs.length) (nI i) out (kC ks)
def QA (kind n : Int) (xs vs ks : List Int) (i : Nat) (out : Bool) : V.St := QS (nI kind) (fds xs) (rowD (nIs vs)) (valsD n vs) (nI n) (nI xs.length) (nI i) out (kC ks)
theorem inPN (m : Nm) (h : m.ks.length ≤ 12) (out : Bool) : V.inS (sg m) (PN m.ks.length 41 out []) = PA m.kind m.n m.xs m.vs m.ks m.i out := by
  unfold PN PA
  rw [inPS, List.append_nil, inNmC m h]
  rfl
theorem inPN2 (m : Nm) (h : m.ks.length ≤ 12) (out : Bool) : V.inS (sg m) (PN m.ks.length 42 out []) = PA m.kind m.n m.xs m.vs m.ks (m.i + 1) out := by
  unfold PN PA
  rw [inPS, List.append_nil, inNmC m h]
  rfl
theorem inPNm (m : Nm) (h : m.ks.length ≤ 12) (out : Bool) : V.inS (sg m) (PN m.ks.length 42 out [[.sym 60]]) = PA m.kind m.n m.xs m.vs (m.ks ++ [m.id]) (m.i + 1) out := by
  unfold PN PA
  rw [inPS, List.map_append, inNmC m h]
  have e : kC m.ks ++ [[D.sym 60]].map (V.inDs (sg m)) = kC (m.ks ++ [m.id]) := by
    simp only [kC, List.map_append, List.map_cons, List.map_nil, V.inDs, V.inD]
    rfl
  rw [e]
  rfl
theorem inQN (m : Nm) (h : m.ks.length ≤ 12) (out : Bool) : V.inS (sg m) (QN m.ks.length 45 out) = QA m.kind m.n m.xs m.vs m.ks m.i out := by
  unfold QN QA
  rw [inQS, inNmC m h]
  rfl
theorem inQN2 (m : Nm) (h : m.ks.length ≤ 12) (out : Bool) : V.inS (sg m) (QN m.ks.length 46 out) = QA m.kind m.n m.xs m.vs m.ks (m.i + 1) out := by
  unfold QN QA
  rw [inQS, inNmC m h]
  rfl
theorem inQN0 (m : Nm) (h : m.ks.length ≤ 12) (out : Bool) : V.inS (sg m) (QN0 m.ks.length out) = QA m.kind m.n m.xs m.vs m.ks 0 out := by
  unfold QN0 QA
  rw [inQS, inNmC m h]
  rfl
/-- what is looked up of runs -/
theorem at12 {p : Nat → Bool} (h : upto12.all p = true) {w : Nat} (hw : w ≤ 12) : p w = true := List.all_eq_true.1 h w (by simp only [upto12, List.mem_cons, List.not_mem_nil, or_false]; omega)
theorem at11 {p : Nat → Bool} (h : idx12.all p = true) {w : Nat} (hw : w ≤ 11) : p w = true := List.all_eq_true.1 h w (by simp only [idx12, List.mem_cons, List.not_mem_nil, or_false]; omega)
theorem atB {p : Bool → Bool} (h : bools.all p = true) (o : Bool) : p o = true := List.all_eq_true.1 h o (by cases o <;> simp [bools])
theorem Run.of_upto' {σ : Nat → D} (hσ : V.Plain σ) {an : V.An} {k : Nat} {c : Code} {s s' : V.St} {x : V.X} {ids : List Nat} {keep : List Bool} {nx : Nat} (hg : @V.Good (V.sigOf σ) Try.prog an) (hr : V.Regs c) (h : V.endsAs (V.upto Try.prog an k c s ids keep nx) x s' = true) : V.Run Try.prog c (V.inS σ s) x (V.inS σ s') :=
  V.Run.ins hσ (@V.Run.of_upto (V.sigOf σ) _ _ hg regs follows _ _ _ _ _ _ _ _ hr (V.endsAs_eq h))
set_option maxRecDepth 1000000 in
theorem runHead : V.tells Try.prog anE 400 74 [i8t] [.int .i64 3, mt, mt, mt, .int .i64 0] = true ∧ V.tells Try.prog anE 400 33 [sch, i8t] [.int .i64 3] = true := ⟨by kernel_rfl, by kernel_rfl⟩
theorem lst_of {l : List D} (h : 0 < l.length) : rowD l = .lst l := if_neg (by omega)
theorem gPOk (m : Nm) (hi : m.i < m.vs.length) (hid : m.vs[m.i]? = some m.id) : ∀ f ∈ gP, @V.Gact.ok (V.sigOf (sg m)) Try.prog f := by
  letI : V.Sig := V.sigOf (sg m)
  intro f hf
  have h1 : V.plain (D.sym 51) = .lst (nIs m.vs) := lst_of (by simp [nIs]; omega)
  have h2 : V.plain (D.sym 52) = .lst (m.vs.map fun _ => vn (nI m.n)) := lst_of (by simp; omega)
  simp only [gP, List.mem_cons, List.not_mem_nil, or_false] at hf
  rcases hf with rfl | rfl
  · refine ⟨.i64, m.i, nIs m.vs, nI m.id, 3, h1, rfl, by omega, by simp [nIs, hid], Try.underlying26, by kernel_rfl, by show 0 < 1; omega, rfl, ?_⟩
    intro j c y hc hy
    match j with
    | 0 => simp [nI, V.D.cells] at hc hy; subst hc; subst hy; exact .inr ⟨60, rfl, rfl⟩
    | j + 1 => simp at hc
  · refine ⟨.i64, m.i, m.vs.map fun _ => vn (nI m.n), vn (nI m.n), 28, h2, rfl, by omega, by simp [hi], Try.underlying25, by kernel_rfl, by show 0 < 5; omega, rfl, ?_⟩
    intro j c y hc hy
    simp only [vn, V.D.cells] at hy
    match j with
    | 0 => simp at hc hy; subst hc; subst hy; exact .inl rfl
    | 1 => simp at hc hy; subst hc; subst hy; exact .inr ⟨40, rfl, rfl⟩
    | 2 => simp at hc hy; subst hc; subst hy; exact .inl rfl
    | 3 => simp at hc hy; subst hc; subst hy; exact .inl rfl
    | 4 => simp at hc hy; subst hc; subst hy; exact .inl rfl
    | j + 5 => simp at hc
theorem fPOk (m : Nm) (hi : m.i < m.vs.length) (hv : m.vs.length ≤ 12) : ∀ f ∈ fP, @V.Fact.ok (V.sigOf (sg m)) Try.prog f := by
  letI : V.Sig := V.sigOf (sg m)
  intro f hf
  simp only [fP, List.mem_cons, List.not_mem_nil, or_false] at hf
  rcases hf with rfl | rfl
  · exact V.okc (k := .i64) (m := m.i) (n := m.vs.length) rfl rfl (V.c_lssT (by omega))
  · exact V.oka (k := .i64) (m := m.i) (n := 1) (r := ((m.i + 1 : Nat) : Int)) rfl rfl (by simp only [V.ariI, V.wr_i64, Option.some.injEq]; omega) rfl
theorem tPOk (m : Nm) (hx : m.xs.length ≤ 12) (b : Bool) (hb : b = decide (m.id ∈ m.xs)) : @V.TblOk (V.sigOf (sg m)) Try.prog (tP b) := by
  have hP := plainSg m
  have hF := fieldHolds (nI m.kind) rfl rfl m.xs hx m.id
  have e1 : V.inDs (sg m) [xD (.sym 61) (.sym 50), .sym 60] = [xD (nI m.kind) (fds m.xs), nI m.id] := by
    simp only [xD, mt, V.txt, V.inDs, V.inD]
    rfl
  have g1 : @V.Holds (V.sigOf (sg m)) Try.prog 57 [xD (.sym 61) (.sym 50), .sym 60] (if b then [fd (.sym 60), .bool true] else [fd0, .bool false]) := by
    refine V.Holds.outs hP ?_
    rw [e1]
    cases b with
    | true =>
      have hm : m.id ∈ m.xs := by simpa using hb.symm
      rw [if_pos hm] at hF
      exact hF
    | false =>
      have hm : m.id ∉ m.xs := by simpa using hb.symm
      rw [if_neg hm] at hF
      exact hF
  have g2 : @V.Holds (V.sigOf (sg m)) Try.prog 74 [i8t] [.int .i64 3, mt, mt, mt, .int .i64 0] := @V.holds_of_tells (V.sigOf (sg m)) _ _ (goodE _) regs follows _ _ _ _ runHead.1
  have g3 : @V.Holds (V.sigOf (sg m)) Try.prog 33 [sch, i8t] [.int .i64 3] := @V.holds_of_tells (V.sigOf (sg m)) _ _ (goodE _) regs follows _ _ _ _ runHead.2
  letI : V.Sig := V.sigOf (sg m)
  exact V.TblOk.cons (V.RowOk.cons g1 V.RowOk.nil) (V.TblOk.cons (V.RowOk.cons g2 V.RowOk.nil) (V.TblOk.cons (V.RowOk.cons g3 V.RowOk.nil) V.TblOk.nil))
theorem goodP (m : Nm) (hx : m.xs.length ≤ 12) (hv : m.vs.length ≤ 12) (hi : m.i < m.vs.length) (hid : m.vs[m.i]? = some m.id) (b : Bool) (hb : b = decide (m.id ∈ m.xs)) : @V.Good (V.sigOf (sg m)) Try.prog (aP b) := by
  have ht := tPOk m hx b hb
  exact @V.Good.mk (V.sigOf (sg m)) _ _ named (@V.spec_of_tbl (V.sigOf (sg m)) _ _ ht) (@V.orc_both (V.sigOf (sg m)) _ _ _ (fPOk m hi hv) (gPOk m hi hid) _ rfl) (@V.call_none (V.sigOf (sg m)) _ _ rfl)
/-- the numbers that stay, and whether one is left out -/
def kept (xs vs : List Int) : List Int := vs.filter (· ∈ xs)
def outs (xs vs : List Int) : Bool := vs.any fun v => decide (v ∉ xs)
theorem kept_cons (xs r : List Int) (v : Int) : kept xs (v :: r) = if v ∈ xs then v :: kept xs r else kept xs r := by
  unfold kept
  rw [List.filter_cons]
  by_cases h : v ∈ xs <;> simp [h]
theorem outs_cons (xs r : List Int) (v : Int) : outs xs (v :: r) = (decide (v ∉ xs) || outs xs r) := by simp only [outs, List.any_cons]
theorem projLoop (kind n : Int) {xs vs : List Int} (hx : xs.length ≤ 12) (hv : vs.length ≤ 12) : ∀ (q i : Nat) (ks : List Int) (o : Bool), i + q = vs.length → ks.length ≤ i →
    V.LRun Try.prog pLp (PA kind n xs vs ks i o) (.exit 0) (PA kind n xs vs (ks ++ kept xs (vs.drop i)) vs.length (o || outs xs (vs.drop i))) := by
  intro q
  induction q with
  | zero =>
    intro i ks o hi hk
    obtain rfl : i = vs.length := by omega
    have hg : @V.Good (V.sigOf (sg ⟨kind, xs, vs, ks, n, vs.length, 0⟩)) Try.prog aPo := by
      refine @V.Good.mk (V.sigOf (sg ⟨kind, xs, vs, ks, n, vs.length, 0⟩)) _ _ named (fun _ _ _ h => nomatch h) (@V.orc_of (V.sigOf (sg ⟨kind, xs, vs, ks, n, vs.length, 0⟩)) _ _ (fun f hf => ?_) _ rfl) (@V.call_none (V.sigOf (sg ⟨kind, xs, vs, ks, n, vs.length, 0⟩)) _ _ rfl)
      letI : V.Sig := V.sigOf (sg ⟨kind, xs, vs, ks, n, vs.length, 0⟩)
      simp only [List.mem_cons, List.not_mem_nil, or_false] at hf
      subst hf
      exact V.okc (k := .i64) (m := vs.length) (n := vs.length) rfl rfl (V.c_lssF (by omega))
    have r := Run.of_upto' (plainSg ⟨kind, xs, vs, ks, n, vs.length, 0⟩) hg regsP.2.2.2.2.1.2 (atB (at12 runPo (w := ks.length) (by omega)) o)
    rw [inPN ⟨kind, xs, vs, ks, n, vs.length, 0⟩ (by simp only; omega)] at r
    have e1 : ks ++ kept xs (vs.drop vs.length) = ks := by simp [kept]
    have e2 : (o || outs xs (vs.drop vs.length)) = o := by simp [outs]
    rw [e1, e2]
    exact V.LRun.out r (by simp)
  | succ q ih =>
    intro i ks o hi hk
    have hil : i < vs.length := by omega
    have hid : vs[i]? = some vs[i] := List.getElem?_eq_getElem hil
    have hd : vs.drop i = vs[i] :: vs.drop (i + 1) := List.drop_eq_getElem_cons hil
    by_cases hm : vs[i] ∈ xs
    · have hg := goodP ⟨kind, xs, vs, ks, n, i, vs[i]⟩ hx hv hil hid true (by simp [hm])
      have r := Run.of_upto' (plainSg ⟨kind, xs, vs, ks, n, i, vs[i]⟩) hg regsP.2.2.2.2.1.2 (atB (at11 runPm (w := ks.length) (by omega)) o)
      rw [inPN ⟨kind, xs, vs, ks, n, i, vs[i]⟩ (by simp only; omega), inPNm ⟨kind, xs, vs, ks, n, i, vs[i]⟩ (by simp only; omega)] at r
      have h2 := ih (i + 1) (ks ++ [vs[i]]) o (by omega) (by simp; omega)
      have e1 : ks ++ kept xs (vs.drop i) = ks ++ [vs[i]] ++ kept xs (vs.drop (i + 1)) := by rw [hd, kept_cons, if_pos hm]; simp
      have e2 : (o || outs xs (vs.drop i)) = (o || outs xs (vs.drop (i + 1))) := by rw [hd, outs_cons]; simp [hm]
      rw [e1, e2]
      exact V.LRun.step r h2
    · have hg := goodP ⟨kind, xs, vs, ks, n, i, vs[i]⟩ hx hv hil hid false (by simp [hm])
      have r := Run.of_upto' (plainSg ⟨kind, xs, vs, ks, n, i, vs[i]⟩) hg regsP.2.2.2.2.1.2 (atB (at12 runPn (w := ks.length) (by omega)) o)
      rw [inPN ⟨kind, xs, vs, ks, n, i, vs[i]⟩ (by simp only; omega), inPN2 ⟨kind, xs, vs, ks, n, i, vs[i]⟩ (by simp only; omega)] at r
      have h2 := ih (i + 1) ks true (by omega) (by omega)
      have e1 : ks ++ kept xs (vs.drop i) = ks ++ kept xs (vs.drop (i + 1)) := by rw [hd, kept_cons, if_neg hm]
      have e2 : (o || outs xs (vs.drop i)) = (true || outs xs (vs.drop (i + 1))) := by rw [hd, outs_cons]; simp [hm]
      rw [e1, e2]
      exact V.LRun.step r h2
theorem projLoop2 (kind n : Int) {xs vs ks : List Int} (hx : xs.length ≤ 12) (hk : ks.length ≤ 12) (o : Bool) : ∀ (q i : Nat), i + q = xs.length → V.LRun Try.prog pLq (QA kind n xs vs ks i o) (.exit 2) (QA kind n xs vs ks xs.length o) := by
  intro q
  induction q with
  | zero =>
    intro i hi
    obtain rfl : i = xs.length := by omega
    have hg : @V.Good (V.sigOf (sg ⟨kind, xs, vs, ks, n, xs.length, 0⟩)) Try.prog aQo := by
      refine @V.Good.mk (V.sigOf (sg ⟨kind, xs, vs, ks, n, xs.length, 0⟩)) _ _ named (fun _ _ _ h => nomatch h) (@V.orc_of (V.sigOf (sg ⟨kind, xs, vs, ks, n, xs.length, 0⟩)) _ _ (fun f hf => ?_) _ rfl) (@V.call_none (V.sigOf (sg ⟨kind, xs, vs, ks, n, xs.length, 0⟩)) _ _ rfl)
      letI : V.Sig := V.sigOf (sg ⟨kind, xs, vs, ks, n, xs.length, 0⟩)
      simp only [List.mem_cons, List.not_mem_nil, or_false] at hf
      subst hf
      exact V.okc (k := .i64) (m := xs.length) (n := xs.length) rfl rfl (V.c_lssF (by omega))
    have r := Run.of_upto' (plainSg ⟨kind, xs, vs, ks, n, xs.length, 0⟩) hg regsP.2.2.2.2.2.1.2 (atB (at12 runQo (w := ks.length) hk) o)
    rw [inQN ⟨kind, xs, vs, ks, n, xs.length, 0⟩ hk] at r
    exact V.LRun.out r (by simp)
  | succ q ih =>
    intro i hi
    have hil : i < xs.length := by omega
    have hg : @V.Good (V.sigOf (sg ⟨kind, xs, vs, ks, n, i, xs[i]⟩)) Try.prog aQi := by
      refine @V.Good.mk (V.sigOf (sg ⟨kind, xs, vs, ks, n, i, xs[i]⟩)) _ _ named (fun _ _ _ h => nomatch h) (@V.orc_both (V.sigOf (sg ⟨kind, xs, vs, ks, n, i, xs[i]⟩)) _ _ _ (fun f hf => ?_) (fun f hf => ?_) _ rfl) (@V.call_none (V.sigOf (sg ⟨kind, xs, vs, ks, n, i, xs[i]⟩)) _ _ rfl)
      · letI : V.Sig := V.sigOf (sg ⟨kind, xs, vs, ks, n, i, xs[i]⟩)
        simp only [fQi, List.mem_cons, List.not_mem_nil, or_false] at hf
        rcases hf with rfl | rfl
        · exact V.okc (k := .i64) (m := i) (n := xs.length) rfl rfl (V.c_lssT (by omega))
        · exact V.oka (k := .i64) (m := i) (n := 1) (r := ((i + 1 : Nat) : Int)) rfl rfl (by simp only [V.ariI, V.wr_i64, Option.some.injEq]; omega) rfl
      · letI : V.Sig := V.sigOf (sg ⟨kind, xs, vs, ks, n, i, xs[i]⟩)
        simp only [gQi, List.mem_cons, List.not_mem_nil, or_false] at hf
        subst hf
        have h1 : V.plain (D.sym 50) = .lst (xs.map fun n => fd (nI n)) := lst_of (by simp; omega)
        refine ⟨.i64, i, xs.map fun n => fd (nI n), fd (nI xs[i]), 33, h1, rfl, by omega, by simp [hil], Try.underlying29, by kernel_rfl, by show 0 < 10; omega, rfl, ?_⟩
        intro j c y hc hy
        simp only [fd, V.D.cells] at hy
        match j with
        | 0 => simp at hc hy; subst hc; subst hy; exact .inr ⟨62, rfl, rfl⟩
        | 1 | 2 | 3 | 4 | 5 | 6 | 7 | 8 | 9 => simp at hc hy; subst hc; subst hy; exact .inl rfl
        | j + 10 => simp at hc
    have r := Run.of_upto' (plainSg ⟨kind, xs, vs, ks, n, i, xs[i]⟩) hg regsP.2.2.2.2.2.1.2 (atB (at12 runQi (w := ks.length) hk) o)
    rw [inQN ⟨kind, xs, vs, ks, n, i, xs[i]⟩ hk, inQN2 ⟨kind, xs, vs, ks, n, i, xs[i]⟩ hk] at r
    exact V.LRun.step r (ih (i + 1) (by omega))

/-! All of it. -/
theorem inNms' (σ : Nat → D) (ks : List Int) (h : ∀ j, j < ks.length → σ j = nI (ks.getD j 0)) : (nms ks.length).map (V.inD σ) = nIs ks := inNms σ ks h
/-- names at the start: the value's own numbers -/
def s0 (kind n : Int) (xs vs : List Int) : Nat → D
  | 40 => nI n
  | 50 => fds xs
  | 61 => nI kind
  | j => nI (vs.getD j 0)
theorem plain0 (kind n : Int) (xs vs : List Int) : V.Plain (s0 kind n xs vs) := by
  constructor
  · intro j
    unfold s0
    split <;> first | rfl | exact rowD_one _
  · intro j
    unfold s0
    split <;> first | rfl | exact no_fds _
theorem s0_id (kind n : Int) (xs vs : List Int) (h : vs.length ≤ 12) : ∀ j, j < vs.length → s0 kind n xs vs j = nI (vs.getD j 0) := by
  intro j hj
  unfold s0
  split <;> first | omega | rfl
/-- the call's state at the start -/
def argS (kind n : Int) (xs vs : List Int) : V.St := ⟨[.ptr 56 0 0, .dat (xD (nI kind) (fds xs)), .dat (stD (nI n) (nIs vs))] ++ List.replicate 115 .undef, [(56, mapO 0)], 112⟩
theorem inZP (kind n : Int) (xs vs : List Int) (h : vs.length ≤ 12) : V.inS (s0 kind n xs vs) (zP vs.length) = argS kind n xs vs := by
  have e1 : V.inD (s0 kind n xs vs) (xD (.sym 61) (.sym 50)) = xD (nI kind) (fds xs) := by
    simp only [xD, mt, V.txt, V.inDs, V.inD]
    rfl
  have e2 : V.inD (s0 kind n xs vs) (stD (.sym 40) (nms vs.length)) = stD (nI n) (nIs vs) := by
    rw [inStD, inNms _ vs (s0_id kind n xs vs h)]
    rfl
  simp only [zP, argS, V.inS, V.inUs_eq, V.inSt, V.inO, mapO, List.map_append, List.map_cons, List.map_nil, V.inU, e1, e2, V.inD, List.map_replicate]
theorem inPF (kind n : Int) (xs vs : List Int) (h : vs.length ≤ 12) : V.inS (s0 kind n xs vs) (PF vs.length) = PA kind n xs vs [] 0 false := by
  unfold PF PA
  have e1 : V.inD (s0 kind n xs vs) (rowD (nms vs.length)) = rowD (nIs vs) := by rw [inRowD, inNms _ vs (s0_id kind n xs vs h)]
  have e2 : V.inD (s0 kind n xs vs) (rowD ((nms vs.length).map fun _ => vn (.sym 40))) = valsD n vs := by
    rw [inRowD, List.map_map]
    unfold valsD
    congr 1
    apply List.ext_getElem
    · simp [nms]
    · intro i a b
      simp only [List.getElem_map, Function.comp_apply, vn, mt, V.txt, V.inDs, V.inD]
      rfl
  rw [inPS, e1, e2]
  rfl
theorem errRun (kind n : Int) {xs vs ks : List Int} (hk : ks.length ≤ 12) (o : Bool) (b : Bool) (hb : b = decide (kind = 5)) (h8 : kind ≠ 8) (hu : ks.Pairwise (· < ·)) : V.Run Try.prog pR (QA kind n xs vs ks xs.length o) .ret (ES (nI kind) (fds xs) (rowD (nIs vs)) (valsD n vs) (nI n) (bad b o ks.length) (kC ks)) := by
  have hP := plainSg ⟨kind, xs, vs, ks, n, xs.length, 0⟩
  have hn := normHolds n hk hu
  have e1 : ∀ l : List D, l = [stD (.sym 40) (nms ks.length)] → V.inDs (sg ⟨kind, xs, vs, ks, n, xs.length, 0⟩) l = [stD (nI n) (nIs ks)] := by
    intro l hl
    subst hl
    simp only [V.inDs, inStD]
    rw [inNms _ ks (fun j hj => by unfold sg; split <;> first | omega | rfl)]
    rfl
  have g1 : @V.Holds (V.sigOf (sg ⟨kind, xs, vs, ks, n, xs.length, 0⟩)) Try.prog 13 [stD (.sym 40) (nms ks.length)] [stD (.sym 40) (nms ks.length), .int .i64 0] := by
    refine V.Holds.outs hP ?_
    have e2 : V.inDs (sg ⟨kind, xs, vs, ks, n, xs.length, 0⟩) [stD (.sym 40) (nms ks.length), .int .i64 0] = [stD (nI n) (nIs ks), .int .i64 0] := by
      have := e1 _ rfl
      simp only [V.inDs, V.inD] at this ⊢
      simp only [List.cons.injEq, and_true] at this
      rw [this]
    rw [e1 _ rfl, e2]
    exact hn
  have ht : @V.TblOk (V.sigOf (sg ⟨kind, xs, vs, ks, n, xs.length, 0⟩)) Try.prog (tEn ks.length) := @V.TblOk.cons (V.sigOf (sg ⟨kind, xs, vs, ks, n, xs.length, 0⟩)) _ _ _ _ (@V.RowOk.cons (V.sigOf (sg ⟨kind, xs, vs, ks, n, xs.length, 0⟩)) _ _ _ _ _ g1 (@V.RowOk.nil (V.sigOf (sg ⟨kind, xs, vs, ks, n, xs.length, 0⟩)) _ _)) (@V.TblOk.nil (V.sigOf (sg ⟨kind, xs, vs, ks, n, xs.length, 0⟩)) _)
  have hg : @V.Good (V.sigOf (sg ⟨kind, xs, vs, ks, n, xs.length, 0⟩)) Try.prog (aEn b ks.length) := by
    refine @V.Good.mk (V.sigOf (sg ⟨kind, xs, vs, ks, n, xs.length, 0⟩)) _ _ named (@V.spec_of_tbl (V.sigOf (sg ⟨kind, xs, vs, ks, n, xs.length, 0⟩)) _ _ ht) (@V.orc_of (V.sigOf (sg ⟨kind, xs, vs, ks, n, xs.length, 0⟩)) _ _ (fun f hf => ?_) _ rfl) (@V.call_none (V.sigOf (sg ⟨kind, xs, vs, ks, n, xs.length, 0⟩)) _ _ rfl)
    letI : V.Sig := V.sigOf (sg ⟨kind, xs, vs, ks, n, xs.length, 0⟩)
    simp only [fE, List.mem_cons, List.not_mem_nil, or_false] at hf
    rcases hf with rfl | rfl
    · exact V.okc (k := .i64) (m := kind) (n := 5) rfl rfl (by subst hb; simp [V.cmpI]; rfl)
    · exact V.okc (k := .i64) (m := kind) (n := 8) rfl rfl (V.c_eqlF h8)
  have r := Run.of_upto' hP hg regsP.2.2.2.2.2.2 (atB (at12 (atB runE b) (w := ks.length) hk) o)
  rw [inQN ⟨kind, xs, vs, ks, n, xs.length, 0⟩ hk] at r
  have e : V.inS (sg ⟨kind, xs, vs, ks, n, xs.length, 0⟩) (EN ks.length (bad b o ks.length)) = ES (nI kind) (fds xs) (rowD (nIs vs)) (valsD n vs) (nI n) (bad b o ks.length) (kC ks) := by
    have hc := inNmC ⟨kind, xs, vs, ks, n, xs.length, 0⟩ hk
    have hlen : (nmC ks.length).length = ks.length := by simp [nmC]
    have hlk : (kC ks).length = ks.length := by simp [kC]
    have hrows : V.inSt (sg ⟨kind, xs, vs, ks, n, xs.length, 0⟩) ((rowsP (nmC ks.length) (.sym 40)).map fun p => (p.1, snapO p.2)) = (rowsP (kC ks) (nI n)).map fun p => (p.1, snapO p.2) := by
      have h1 := inRowsP (sg ⟨kind, xs, vs, ks, n, xs.length, 0⟩) (nmC ks.length) (.sym 40)
      have h2 : (nmC ks.length).map (V.inDs (sg ⟨kind, xs, vs, ks, n, xs.length, 0⟩)) = kC ks := hc
      rw [h2] at h1
      have h3 : V.inD (sg ⟨kind, xs, vs, ks, n, xs.length, 0⟩) (.sym 40) = nI n := rfl
      rw [h3] at h1
      rw [← h1]
      simp only [V.inSt, List.map_map]
      rfl
    have hcells : V.inUs (sg ⟨kind, xs, vs, ks, n, xs.length, 0⟩) (cellsE (bad b o ks.length) (.sym 40) (nmC ks.length).flatten) = cellsE (bad b o ks.length) (nI n) (kC ks).flatten := by
      have h1 : (kC ks).flatten = (nmC ks.length).flatten.map (V.inD (sg ⟨kind, xs, vs, ks, n, xs.length, 0⟩)) := by rw [← hc]; exact inFlat _ _
      have h2 : (rowD ((nmC ks.length).flatten.map fun _ => vn (.sym 40))) = rowD ((nmC ks.length).flatten.map fun _ => vn (.sym 40)) := rfl
      rw [h1]
      unfold cellsE
      split
      · simp only [V.inUs, V.inU, V.inD, mt, V.txt]
      · simp only [V.inUs, V.inU, V.inD, mt, V.txt, inRowD, List.map_map]
        rfl
    have h3 : (nmC ks.length).length = (kC ks).length := by rw [hlen, hlk]
    rw [V.inUs_eq] at hcells
    unfold EN ES
    rw [← h3]
    simp only [V.inS, inSt_app, hrows]
    simp only [V.inSt, List.map_cons, List.map_nil, V.inO, valO, hcells, mapO, tmE, V.inUs_eq, List.map_append, V.inU, V.inD, List.map_replicate, inLC, inIC, mt, V.txt]
    rfl
  rw [e] at r
  exact r
/-- the state at the end -/
def FS (n : Int) (ks : List Int) (bd : Bool) : V.St := ⟨tmE, [(56, mapO (errE bd)), (128, valO (cellsE bd (nI n) (nIs ks)))], 9000⟩
theorem kC_flat (ks : List Int) : (kC ks).flatten = nIs ks := by
  induction ks with
  | nil => rfl
  | cons k r ih => simp only [kC, nIs, List.map_cons, List.flatten_cons] at ih ⊢; rw [ih]; rfl
theorem refs_cellsE (bd : Bool) (n : D) (ids : List D) : V.refsL (cellsE bd n ids) = [] := by unfold cellsE; split <;> rfl
theorem fieldsRun (kind n : Int) {xs vs : List Int} (hx : xs.length ≤ 12) (hv : vs.length ≤ 12) (hu : vs.Pairwise (· < ·)) (b : Bool) (hb : b = decide (kind = 5)) (h8 : kind ≠ 8) :
    V.Run Try.prog pA (argS kind n xs vs) .ret (FS n (kept xs vs) (bad b (outs xs vs) (kept xs vs).length)) := by
  have hP0 := plain0 kind n xs vs
  have hS := at12 runS hv
  simp only [Bool.and_eq_true] at hS
  obtain ⟨q0, q1, q2, q3, q4⟩ := hS
  have ex : ∀ {c : Code} {s s' : V.St}, V.Regs c → V.exec Try.prog anE 400 c s = some (.normal, s') → V.Run Try.prog c (V.inS (s0 kind n xs vs) s) .normal (V.inS (s0 kind n xs vs) s') := fun hr h => V.Run.ins hP0 (@V.Run.of_exec (V.sigOf (s0 kind n xs vs)) _ _ (goodE _) regs follows _ _ _ _ _ hr h)
  have r0 := ex regsP.1 (isN_eq q0)
  have r1 := ex regsP.2.1 (isN_eq q1)
  have r2 := ex regsP.2.2.1 (isN_eq q2)
  have r3 := ex regsP.2.2.2.1 (isN_eq q3)
  have r4 := Run.of_upto' hP0 (goodE _) regsP.2.2.2.2.1.1 q4
  rw [inZP kind n xs vs hv] at r0
  rw [inPF kind n xs vs hv] at r4
  have hkl : (kept xs vs).length ≤ 12 := Nat.le_trans (List.length_filter_le _ _) hv
  have hL := V.Run.block_to (id := 0) (V.Run.loop (projLoop kind n hx hv vs.length 0 [] false (by omega) (by simp)))
  simp only [List.drop_zero, List.nil_append, Bool.false_or] at hL
  have hg12 : @V.Good (V.sigOf (sg ⟨kind, xs, vs, kept xs vs, n, vs.length, 0⟩)) Try.prog aQ12 := by
    refine @V.Good.mk (V.sigOf (sg ⟨kind, xs, vs, kept xs vs, n, vs.length, 0⟩)) _ _ named (fun _ _ _ h => nomatch h) (@V.orc_both (V.sigOf (sg ⟨kind, xs, vs, kept xs vs, n, vs.length, 0⟩)) _ _ _ (fun f hf => absurd hf (by simp)) (fun f hf => ?_) _ rfl) (@V.call_none (V.sigOf (sg ⟨kind, xs, vs, kept xs vs, n, vs.length, 0⟩)) _ _ rfl)
    letI : V.Sig := V.sigOf (sg ⟨kind, xs, vs, kept xs vs, n, vs.length, 0⟩)
    simp only [List.mem_cons, List.not_mem_nil, or_false] at hf
    subst hf
    refine ⟨xs.length, rfl, .inl ⟨⟨_, Try.underlying29⟩, ?_⟩⟩
    by_cases h : xs.length = 0
    · exact .inl ⟨if_pos (by simp; exact List.length_eq_zero_iff.1 h), h⟩
    · exact .inr ⟨_, lst_of (by simp; omega), by simp⟩
  have r12 := Run.of_upto' (plainSg ⟨kind, xs, vs, kept xs vs, n, vs.length, 0⟩) hg12 regsP.2.2.2.2.2.1.1 (atB (at12 runQ12 (w := (kept xs vs).length) hkl) (outs xs vs))
  rw [inPN ⟨kind, xs, vs, kept xs vs, n, vs.length, 0⟩ hkl, inQN0 ⟨kind, xs, vs, kept xs vs, n, vs.length, 0⟩ hkl] at r12
  have hL2 := V.Run.block_to (id := 2) (V.Run.loop (projLoop2 kind n (vs := vs) hx hkl (outs xs vs) xs.length 0 (by omega)))
  have rR := errRun kind n (xs := xs) (vs := vs) hkl (outs xs vs) b hb h8 (List.Pairwise.filter _ hu)
  have rAll := V.Run.seq r0 (V.Run.seq r1 (V.Run.seq r2 (V.Run.seq r3 (V.Run.seq (V.Run.seq r4 hL) (V.Run.seq (V.Run.seq r12 hL2) rR)))))
  rw [← shapeP] at rAll
  have hc : valO (cellsE (bad b (outs xs vs) (kept xs vs).length) (nI n) (kC (kept xs vs)).flatten) = valO (cellsE (bad b (outs xs vs) (kept xs vs).length) (nI n) (nIs (kept xs vs))) := by rw [kC_flat]
  refine V.Run.weakL rAll (keep := kE6) (ids := [56, 128]) (nx := 9000) (tm := tmE) rfl (V.AllKept.cons (by kernel_rfl) (by kernel_rfl) (V.AllKept.cons (ob := valO (cellsE (bad b (outs xs vs) (kept xs vs).length) (nI n) (nIs (kept xs vs)))) (Eq.trans (b := some (valO (cellsE (bad b (outs xs vs) (kept xs vs).length) (nI n) (kC (kept xs vs)).flatten))) (by kernel_rfl) (congrArg some hc)) (congrArg (fun l => List.all l _) (refs_cellsE _ _ _)) V.AllKept.nil)) (by kernel_rfl) (by kernel_rfl) (by kernel_rfl) (by kernel_rfl)
/-- the value that is handed back -/
def resE (bd : Bool) (n : D) (ids : List D) : D := if bd then .agg [.int .i64 0, .int .i64 0, mt, .nil, .nil] else stD n ids
theorem fieldsHolds (kind n : Int) {xs vs : List Int} (hx : xs.length ≤ 12) (hv : vs.length ≤ 12) (hu : vs.Pairwise (· < ·)) (b : Bool) (hb : b = decide (kind = 5)) (h8 : kind ≠ 8) :
    @V.CallHolds V.sig0 Try.prog 28 [.ptr 56 0 0, .dat (xD (nI kind) (fds xs)), .dat (stD (nI n) (nIs vs))] [(56, mapO 0)] 112 (.dat (resE (bad b (outs xs vs) (kept xs vs).length) (nI n) (nIs (kept xs vs)))) (FS n (kept xs vs) (bad b (outs xs vs) (kept xs vs).length)).st := by
  have r := fieldsRun kind n hx hv hu b hb h8
  have h := @V.CallHolds.of_run V.sig0 _ _ _ _ Try.func28 bodyP [.ptr 56 0 0, .dat (xD (nI kind) (fds xs)), .dat (stD (nI n) (nIs vs))] [(56, mapO 0)] 112 _ _ r (.inr rfl) [.dat (resE (bad b (outs xs vs) (kept xs vs).length) (nI n) (nIs (kept xs vs)))] (by
    cases bad b (outs xs vs) (kept xs vs).length
    · kernel_rfl
    · kernel_rfl)
  exact h

/-! proj.As. -/
/-- 50: the struct's fields; 51, 52: the value's numbers and values; 53, 54: what stays -/
def sA (kind n : Int) (xs vs ks : List Int) : Nat → D
  | 50 => fds xs
  | 51 => rowD (nIs vs)
  | 52 => valsD n vs
  | 53 => rowD (nIs ks)
  | 54 => valsD n ks
  | 61 => nI kind
  | _ => .nil
theorem plainA (kind n : Int) (xs vs ks : List Int) : V.Plain (sA kind n xs vs ks) := by
  constructor
  · intro j
    unfold sA
    split <;> first | rfl | exact rowD_one _
  · intro j
    unfold sA
    split <;> first | rfl | exact no_fds _ | exact no_nIs _ | exact no_vals _ _
def vN (L ids : D) : D := .agg [.int .i64 12, .int .i64 0, mt, L, ids]
def zero : D := .agg [.int .i64 0, .int .i64 0, mt, .nil, .nil]
def cellsN (bd : Bool) : List V.U := if bd then [.dat (.int .i64 0), .dat (.int .i64 0), .dat mt, .dat .nil, .dat .nil] else [.dat (.int .i64 12), .dat (.int .i64 0), .dat mt, .dat (.sym 54), .dat (.sym 53)]
def resN (bd : Bool) : D := if bd then zero else vN (.sym 54) (.sym 53)
def entA (bd : Bool) : V.CEnt := ⟨28, [.ptr 56 0 0, .dat (xD (.sym 61) (.sym 50)), .dat (vN (.sym 52) (.sym 51))], [(56, mapO 0)], 112, .dat (resN bd), [(56, mapO (errE bd)), (128, valO (cellsN bd))], 9000⟩
def aA (bd : Bool) : V.An := { anE with call := V.inCalls [entA bd] }
set_option maxRecDepth 1000000 in
theorem runAs : ∀ bd : Bool, V.tells Try.prog (aA bd) 400 10 [sch, xD (.sym 61) (.sym 50), vN (.sym 52) (.sym 51)] [resN bd, .int .i64 (errE bd)] = true := by
  intro bd
  cases bd
  all_goals kernel_rfl
theorem stD_eq (n : Int) (ks : List Int) : stD (nI n) (nIs ks) = vN (valsD n ks) (rowD (nIs ks)) := by
  unfold stD vN valsD
  congr 5
  rw [nIs, List.map_map]
  rfl
theorem asHolds (kind n : Int) {xs vs : List Int} (hx : xs.length ≤ 12) (hv : vs.length ≤ 12) (hu : vs.Pairwise (· < ·)) (b : Bool) (hb : b = decide (kind = 5)) (h8 : kind ≠ 8) :
    @V.Holds V.sig0 Try.prog 10 [sch, xD (nI kind) (fds xs), stD (nI n) (nIs vs)] [resE (bad b (outs xs vs) (kept xs vs).length) (nI n) (nIs (kept xs vs)), .int .i64 (errE (bad b (outs xs vs) (kept xs vs).length))] := by
  have hP := plainA kind n xs vs (kept xs vs)
  have hF := fieldsHolds kind n hx hv hu b hb h8
  generalize bad b (outs xs vs) (kept xs vs).length = bd at hF ⊢
  have ex : V.inD (sA kind n xs vs (kept xs vs)) (xD (.sym 61) (.sym 50)) = xD (nI kind) (fds xs) := by
    simp only [xD, mt, V.txt, V.inDs, V.inD]
    rfl
  have ev : V.inD (sA kind n xs vs (kept xs vs)) (vN (.sym 52) (.sym 51)) = stD (nI n) (nIs vs) := by
    rw [stD_eq]
    simp only [vN, mt, V.txt, V.inDs, V.inD]
    rfl
  have er : V.inD (sA kind n xs vs (kept xs vs)) (resN bd) = resE bd (nI n) (nIs (kept xs vs)) := by
    cases bd
    · show V.inD _ (vN (.sym 54) (.sym 53)) = stD (nI n) (nIs (kept xs vs))
      rw [stD_eq]
      simp only [vN, mt, V.txt, V.inDs, V.inD]
      rfl
    · rfl
  have ec : V.inUs (sA kind n xs vs (kept xs vs)) (cellsN bd) = cellsE bd (nI n) (nIs (kept xs vs)) := by
    cases bd
    · have h1 : rowD ((nIs (kept xs vs)).map fun _ => vn (nI n)) = valsD n (kept xs vs) := by rw [valsD, nIs, List.map_map]; rfl
      simp only [cellsN, cellsE, Bool.false_eq_true, if_false, V.inUs, V.inU, V.inD, mt, V.txt, h1]
      rfl
    · rfl
  have hC : @V.CallsOk (V.sigOf (sA kind n xs vs (kept xs vs))) Try.prog [entA bd] := by
    intro e he
    simp only [List.mem_cons, List.not_mem_nil, or_false] at he
    subst he
    refine V.CallHolds.outs hP ?_
    simp only [entA, V.inUs, V.inU, ex, ev, er, V.inSt, V.inO, List.map_cons, List.map_nil, mapO, valO, V.inD, ec]
    exact hF
  have hg : @V.Good (V.sigOf (sA kind n xs vs (kept xs vs))) Try.prog (aA bd) := @V.Good.mk (V.sigOf (sA kind n xs vs (kept xs vs))) _ _ named (fun _ _ _ h => nomatch h) (fun _ _ _ _ h => nomatch h) (@V.call_of_list (V.sigOf (sA kind n xs vs (kept xs vs))) _ _ hC _ rfl)
  have r := V.Holds.ins hP (@V.holds_of_tells (V.sigOf (sA kind n xs vs (kept xs vs))) _ _ hg regs follows _ _ _ _ (runAs bd))
  have e0 : V.inDs (sA kind n xs vs (kept xs vs)) [sch, xD (.sym 61) (.sym 50), vN (.sym 52) (.sym 51)] = [sch, xD (nI kind) (fds xs), stD (nI n) (nIs vs)] := by
    simp only [V.inDs, ex, ev]
    rfl
  have e1 : V.inDs (sA kind n xs vs (kept xs vs)) [resN bd, .int .i64 (errE bd)] = [resE bd (nI n) (nIs (kept xs vs)), .int .i64 (errE bd)] := by
    simp only [V.inDs, er, V.inD]
  rw [e0, e1] at r
  exact r
end Go.Proofs.Ytjofhegodknmaaa.Say
