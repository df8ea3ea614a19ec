/- ValueUnions: what value.Fields tells of rows of numbers, put together. -/
import Derived.Test.YtchmhmhjajocnaaSayUnionRuns
set_option linter.unusedVariables false
set_option linter.unusedSimpArgs false
namespace Go.Proofs.Ytchmhmhjajocnaa.Say
open Go Go.RowKit
open V (D)
instance : V.Sig := V.sig0

/-! What it tells. -/
def chain : Nat → List Nat → Bool
  | _, [] => true
  | p, c :: r => decide (p < c) && decide (c ≤ 4) && chain c r
def asks (q : Nat) (l : List Nat) : Bool := if q % 2 = 0 then decide (2 ∈ l) else if q = 1 then decide (l.length = 1) else decide (l.length ≤ 1)
def ahead (l : List Nat) (i : Nat) : Nat := if i = 0 then 0 else l.getD (i - 1) 0
def sF (l : List Nat) (i : Nat) : Nat → D := fun n =>
  match n with
  | 1 => idsV l
  | 2 => eltV l.length
  | 4 => num l.length
  | 6 => num (ahead l i)
  | _ => .nil
theorem plainF (l : List Nat) (i : Nat) : V.Plain (sF l i) := by
  constructor
  · intro j
    unfold sF
    split <;> first | rfl | exact oneIds _ | exact oneEltV _
  · intro j
    unfold sF
    split <;> first | rfl | exact noIds _ | exact noEltV _
theorem idsAt {l : List Nat} {i : Nat} (h : i < l.length) : idsV l = .lst (l.map num) ∧ (l.map num)[i]? = some (num (l.getD i 0)) := by
  have h1 : ¬ l = [] := by intro h2; subst h2; simp at h
  exact ⟨by simp only [idsV, if_neg h1], by simp [List.getElem?_map, List.getElem?_eq_getElem h, List.getD]⟩
theorem eltAt {n i : Nat} (h : i < n) : eltV n = .lst ((List.range n).map elt) ∧ ((List.range n).map elt)[i]? = some (elt i) := by
  have h1 : ¬ n = 0 := by omega
  exact ⟨by simp only [eltV, if_neg h1], by simp [List.getElem?_map, h]⟩
theorem sz3 : V.sizeT Try.prog 3 = some 1 := by kernel_rfl
theorem sz30 : V.sizeT Try.prog 30 = some 5 := by kernel_rfl
theorem sameOk [V.Sig] (l : List D) : ∀ (j : Nat) c y, l[j]? = some c → l[j]? = some y → c = y ∨ ∃ m, c = .sym m ∧ V.Sig.σ m = y := by
  intro j c y h1 h2
  rw [h1] at h2
  exact .inl (Option.some.inj h2)
theorem oneOk (z k : Nat) [V.Sig] (hk : V.Sig.σ k = num z) : ∀ (j : Nat) c y, ([.sym k] : List D)[j]? = some c → (num z).cells[j]? = some y → c = y ∨ ∃ m, c = .sym m ∧ V.Sig.σ m = y := by
  intro j c y hc hy
  simp only [num, V.D.cells] at hy
  match j with
  | 0 => simp at hc hy; subst hc; subst hy; exact .inr ⟨k, rfl, hk⟩
  | j + 1 => simp at hc
theorem gFok (l : List Nat) (i : Nat) (hi : i < l.length) : ∀ f ∈ gF i (l.getD i 0), @V.Gact.ok (V.sigOf (sF l i)) Try.prog f := by
  letI : V.Sig := V.sigOf (sF l i)
  intro f hf
  simp only [gF, List.mem_append, List.mem_cons, List.not_mem_nil, or_false] at hf
  rcases hf with (rfl | rfl) | hf
  · obtain ⟨h1, h2⟩ := idsAt hi
    exact ⟨.i64, i, _, num (l.getD i 0), 3, h1, rfl, by omega, by simpa using h2, Try.underlying24, sz3, by show 0 < 1; omega, rfl, sameOk [num (l.getD i 0)]⟩
  · obtain ⟨h1, h2⟩ := eltAt hi
    exact ⟨.i64, i, _, elt i, 30, h1, rfl, by omega, by simpa using h2, Try.underlying28, sz30, by show 0 < 5; omega, rfl, sameOk [.int .i64 3, .int .i64 i, mt, .nil, .nil]⟩
  · by_cases h0 : i = 0
    · rw [if_pos h0] at hf; simp at hf
    · rw [if_neg h0] at hf
      simp only [List.mem_cons, List.not_mem_nil, or_false] at hf
      subst hf
      obtain ⟨h1, h2⟩ := idsAt (l := l) (i := i - 1) (by omega)
      have ha : V.Sig.σ 6 = num (l.getD (i - 1) 0) := by show num (ahead l i) = _; simp only [ahead, if_neg h0]
      exact ⟨.i64, (i - 1 : Nat), _, num (l.getD (i - 1) 0), 3, h1, rfl, by omega, by simpa using h2, Try.underlying24, sz3, by show 0 < 1; omega, rfl, oneOk _ 6 ha⟩
theorem fFok (l : List Nat) (i : Nat) (hi : i < l.length) (g : Bool) (hg : i ≠ 0 → (g = true ↔ l.getD i 0 ≤ ahead l i)) : ∀ f ∈ fF i (l.getD i 0) g, @V.Fact.ok (V.sigOf (sF l i)) Try.prog f := by
  letI : V.Sig := V.sigOf (sF l i)
  intro f hf
  simp only [fF, List.mem_cons] at hf
  rcases hf with rfl | hf
  · exact V.okc (k := .i64) (m := i) (n := l.length) rfl rfl (V.c_lssT (by omega))
  · by_cases h0 : i = 0
    · rw [if_pos h0] at hf; simp at hf
    · rw [if_neg h0] at hf
      simp only [List.mem_cons, List.not_mem_nil, or_false] at hf
      subst hf
      have h1 := hg h0
      cases g
      · have h2 : ¬ l.getD i 0 ≤ ahead l i := fun h => by simpa using h1.2 h
        exact V.okc (k := .i64) (m := ahead l i) (n := l.getD i 0) rfl rfl (V.c_geqF (by omega))
      · exact V.okc (k := .i64) (m := ahead l i) (n := l.getD i 0) rfl rfl (V.c_geqT (by have := h1.1 rfl; omega))
theorem chain_drop {l : List Nat} {i : Nat} (h : i < l.length) : chain (ahead l i) (l.drop i) = (decide (ahead l i < l.getD i 0) && decide (l.getD i 0 ≤ 4) && chain (ahead l (i + 1)) (l.drop (i + 1))) := by
  rw [List.drop_eq_getElem_cons h]
  have : l.getD i 0 = l[i] := by simp [List.getD, List.getElem?_eq_getElem h]
  simp only [chain, ahead, Nat.add_sub_cancel, this]
  simp
/-- at the head of the loop -/
def HF (q : Nat) (l : List Nat) (i : Nat) : V.St := FS q (eltV l.length) (idsV l) (num l.length) i
def RF (q : Nat) (l : List Nat) (b : Bool) : V.St := FR q (eltV l.length) (idsV l) b
theorem inHF (q : Nat) (l : List Nat) (i j : Nat) : V.inS (sF l i) (hF q j) = HF q l j := by
  rw [hF, inFS]
  simp only [V.inD, sF, HF]
theorem inRF (q : Nat) (l : List Nat) (i : Nat) (b : Bool) : V.inS (sF l i) (FR q (.sym 2) (.sym 1) b) = RF q l b := by
  rw [inFR]
  simp only [V.inD, sF, RF]
theorem loopF (q : Nat) (hq : q < 4) (l : List Nat) (hl : l.length ≤ 5) (h6 : ∀ c ∈ l, c < 6) : ∀ k i : Nat, i + k = l.length →
    (chain (ahead l i) (l.drop i) = false ∧ @V.LRun V.sig0 Try.prog bF (HF q l i) .ret (RF q l false)) ∨ (chain (ahead l i) (l.drop i) = true ∧ @V.LRun V.sig0 Try.prog bF (HF q l i) (.exit 0) (HF q l l.length)) := by
  intro k
  induction k with
  | zero =>
    intro i hi
    obtain rfl : i = l.length := by omega
    right
    refine ⟨by rw [List.drop_length]; rfl, ?_⟩
    have r := V.Run.ins (plainF l l.length) (@V.Run.of_uptoD (V.sigOf (sF l l.length)) _ _ (@V.Good.mk (V.sigOf (sF l l.length)) _ (aX l.length) named (@V.spec_of_tbl (V.sigOf (sF l l.length)) _ _ (V.TblOk.any tno to5)) (@V.orc_of (V.sigOf (sF l l.length)) _ (fX l.length) (by
      letI : V.Sig := V.sigOf (sF l l.length)
      intro f hf
      simp only [fX, List.mem_cons, List.not_mem_nil, or_false] at hf
      subst hf
      exact V.okc (k := .i64) (m := l.length) (n := l.length) rfl rfl (V.c_lssF (by omega))) _ rfl)) regs follows _ _ _ _ _ _ _ _ regsF.2.2.1.2 (ruX q l.length hq (by omega)))
    rw [inHF] at r
    exact V.LRun.out r (by simp)
  | succ k ih =>
    intro i hi
    have hil : i < l.length := by omega
    have hc6 : l.getD i 0 < 6 := by
      have : l.getD i 0 = l[i] := by simp [List.getD, List.getElem?_eq_getElem hil]
      rw [this]
      exact h6 _ (List.getElem_mem hil)
    obtain ⟨g, hg0, hg⟩ : ∃ g : Bool, (i = 0 → g = false) ∧ (i ≠ 0 → (g = true ↔ l.getD i 0 ≤ ahead l i)) := by
      by_cases h0 : i = 0
      · exact ⟨false, fun _ => rfl, fun h => absurd h0 h⟩
      · exact ⟨decide (l.getD i 0 ≤ ahead l i), fun h => absurd h h0, fun _ => by simp⟩
    have hG : @V.Good (V.sigOf (sF l i)) Try.prog (aF i (l.getD i 0) g) := @V.Good.mk (V.sigOf (sF l i)) _ (aF i (l.getD i 0) g) named (@V.spec_of_tbl (V.sigOf (sF l i)) _ _ (V.TblOk.any tFCno tFCok)) (@V.orc_both (V.sigOf (sF l i)) _ _ _ (fFok l i hil g hg) (gFok l i hil) _ rfl)
    have hr := ruF q i (l.getD i 0) g hq (by omega) hc6 hg0
    rw [chain_drop hil]
    by_cases hbad : l.getD i 0 = 0 ∨ 4 < l.getD i 0 ∨ (g = true ∧ i ≠ 0)
    · have e : outF q i (l.getD i 0) g = (.ret, FR q (.sym 2) (.sym 1) false) := if_pos hbad
      rw [e] at hr
      have r := V.Run.ins (plainF l i) (@V.Run.of_uptoD (V.sigOf (sF l i)) _ _ hG regs follows _ _ _ _ _ _ _ _ regsF.2.2.1.2 hr)
      rw [inHF, inRF] at r
      left
      refine ⟨?_, V.LRun.out r (by simp)⟩
      rcases hbad with h1 | h1 | ⟨h1, h2⟩
      · have : ¬ ahead l i < l.getD i 0 := by omega
        rw [decide_eq_false this]
        rfl
      · have : ¬ l.getD i 0 ≤ 4 := by omega
        rw [decide_eq_false this, Bool.and_false]
        rfl
      · have : ¬ ahead l i < l.getD i 0 := by have := (hg h2).1 h1; omega
        rw [decide_eq_false this]
        rfl
    · have e : outF q i (l.getD i 0) g = (.normal, hF q (i + 1)) := if_neg hbad
      rw [e] at hr
      have r := V.Run.ins (plainF l i) (@V.Run.of_uptoD (V.sigOf (sF l i)) _ _ hG regs follows _ _ _ _ _ _ _ _ regsF.2.2.1.2 hr)
      rw [inHF, inHF] at r
      have h1 : ahead l i < l.getD i 0 := by
        by_cases h0 : i = 0
        · have : ahead l i = 0 := by simp only [ahead, if_pos h0]
          omega
        · have h2 : ¬ l.getD i 0 ≤ ahead l i := fun h => hbad (.inr (.inr ⟨(hg h0).2 h, h0⟩))
          omega
      have h2 : l.getD i 0 ≤ 4 := by omega
      rw [decide_eq_true h1, decide_eq_true h2, Bool.true_and, Bool.true_and]
      rcases ih (i + 1) (by omega) with ⟨h3, h4⟩ | ⟨h3, h4⟩
      · exact .inl ⟨h3, V.LRun.step r h4⟩
      · exact .inr ⟨h3, V.LRun.step r h4⟩
theorem gBok (l : List Nat) (i : Nat) : ∀ f ∈ gB, @V.Gact.ok (V.sigOf (sF l i)) Try.prog f := by
  letI : V.Sig := V.sigOf (sF l i)
  have k1 : idsV l = .nil ∧ l.length = 0 ∨ ∃ q, idsV l = .lst q ∧ l.length = q.length := by
    unfold idsV
    split
    · rename_i h; exact .inl ⟨rfl, by rw [h]; rfl⟩
    · exact .inr ⟨_, rfl, by simp⟩
  have k2 : eltV l.length = .nil ∧ l.length = 0 ∨ ∃ q, eltV l.length = .lst q ∧ l.length = q.length := by
    unfold eltV
    split
    · rename_i h; exact .inl ⟨rfl, h⟩
    · exact .inr ⟨_, rfl, by simp⟩
  intro f hf
  simp only [gB, List.mem_cons, List.not_mem_nil, or_false] at hf
  rcases hf with rfl | rfl
  · exact ⟨l.length, rfl, .inl ⟨⟨_, Try.underlying24⟩, k1⟩⟩
  · exact ⟨l.length, rfl, .inl ⟨⟨_, Try.underlying28⟩, k2⟩⟩
def vV (l : List Nat) : D := .agg [.int .i64 12, .int .i64 0, mt, eltV l.length, idsV l]
theorem told (q : Nat) (hq : q < 4) (l : List Nat) (hl : l.length ≤ 5) (h6 : ∀ c ∈ l, c < 6) : V.Holds Try.prog 5 [s0, xk q, vV l] [.bool (chain 0 l && asks q l)] := by
  obtain ⟨g0, g1, ⟨g3, gb⟩, gt⟩ := regsF
  obtain ⟨hA, hB, hC⟩ := ruABC q hq
  have hP := plainF l 0
  have hGB : @V.Good (V.sigOf (sF l 0)) Try.prog aB := @V.Good.mk (V.sigOf (sF l 0)) _ aB named (@V.spec_of_tbl (V.sigOf (sF l 0)) _ _ (V.TblOk.any tno to5)) (@V.orc_both (V.sigOf (sF l 0)) _ _ _ (by
    letI : V.Sig := V.sigOf (sF l 0)
    intro f hf
    simp only [fB, List.mem_cons, List.not_mem_nil, or_false] at hf
    subst hf
    exact V.okc (k := .i64) (m := l.length) (n := l.length) rfl rfl (V.c_neqF rfl)) (gBok l 0) _ rfl)
  have r0 := V.Run.ins hP (@V.Run.of_exec (V.sigOf (sF l 0)) _ _ (goodB (V.sigOf (sF l 0))) regs follows _ _ _ _ _ g0 hA)
  have r1 := V.Run.ins hP (@V.Run.of_exec (V.sigOf (sF l 0)) _ _ hGB regs follows _ _ _ _ _ g1 hB)
  have r3 := V.Run.ins hP (@V.Run.of_uptoD (V.sigOf (sF l 0)) _ _ hGB regs follows _ _ _ _ _ _ _ _ g3 hC)
  rw [inHF] at r3
  have e0 : V.inS (sF l 0) (zF q) = ⟨[s0, xk q, vV l].map .dat ++ List.replicate 98 .undef, [], 0⟩ := by
    have hx : V.inD (sF l 0) (xk q) = xk q := V.inD_no _ _ (by unfold xk flds fld i8 mt; rfl)
    have hs : V.inD (sF l 0) s0 = s0 := V.inD_no _ _ rfl
    simp only [zF, V.inS, V.inUs_eq, List.map_append, List.map_cons, List.map_nil, V.inU, hx, hs, List.map_replicate, V.inSt, vV, V.inD, V.inDs, inMt, sF]
  rw [e0] at r0
  have fin : ∀ b, @V.Run V.sig0 Try.prog cF ⟨[s0, xk q, vV l].map .dat ++ List.replicate 98 .undef, [], 0⟩ .ret (RF q l b) → V.Holds Try.prog 5 [s0, xk q, vV l] [.bool b] := by
    intro b h
    exact @V.holds_of_run V.sig0 Try.prog 5 Try.f5 cF Try.func5 bodyF [s0, xk q, vV l] _ _ h (.inr rfl) [.dat (.bool b)] (by kernel_rfl) [(.bool b, [])] rfl
  have hd : chain (ahead l 0) (l.drop 0) = chain 0 l := by simp [ahead]
  rcases loopF q hq l hl h6 l.length 0 (by omega) with ⟨h1, h2⟩ | ⟨h1, h2⟩
  · rw [hd] at h1
    rw [h1, Bool.false_and]
    refine fin false ?_
    rw [shapeF]
    have hb := V.Run.block (id := 0) (V.Run.loop h2)
    simp only [reduceCtorEq, if_false] at hb
    exact V.Run.seq r0 (V.Run.seq r1 (V.Run.seq_out (V.Run.seq r3 hb) (by simp)))
  · rw [hd] at h1
    rw [h1, Bool.true_and]
    refine fin (asks q l) ?_
    rw [shapeF]
    have hb := V.Run.block_to (V.Run.loop h2)
    refine V.Run.seq r0 (V.Run.seq r1 (V.Run.seq (V.Run.seq r3 hb) ?_))
    have hP := plainF l l.length
    have hG : @V.Good (V.sigOf (sF l l.length)) Try.prog (aT q (asks q l)) := by
      have ht : @V.TblOk (V.sigOf (sF l l.length)) Try.prog (tT q (asks q l)) := by
        unfold tT
        split
        · rename_i h0
          have : asks q l = decide (2 ∈ l) := by simp only [asks, if_pos h0]
          have h3 : @V.Holds (V.sigOf (sF l l.length)) Try.prog 11 [.sym 1, .int .i64 2] [.bool (asks q l)] := V.Holds.outs hP (by rw [this]; exact holds2 l hl)
          exact @V.TblOk.cons (V.sigOf (sF l l.length)) _ _ _ _ (@V.RowOk.cons (V.sigOf (sF l l.length)) _ _ _ _ _ h3 (@V.RowOk.nil (V.sigOf (sF l l.length)) _ _)) (@V.TblOk.nil (V.sigOf (sF l l.length)) _)
        · exact @V.TblOk.nil (V.sigOf (sF l l.length)) _
      refine @V.Good.mk (V.sigOf (sF l l.length)) _ (aT q (asks q l)) named (@V.spec_of_tbl (V.sigOf (sF l l.length)) _ _ ht) (@V.orc_both (V.sigOf (sF l l.length)) _ _ _ (by
        letI : V.Sig := V.sigOf (sF l l.length)
        intro f hf
        unfold fTq at hf
        split at hf
        · rename_i h1
          simp only [List.mem_cons, List.not_mem_nil, or_false] at hf
          subst hf
          subst h1
          by_cases hc : l.length = 1
          · have : asks 1 l = true := by simp [asks, hc]
            rw [this]
            exact V.okc (k := .i64) (m := l.length) (n := 1) rfl rfl (V.c_eqlT (by omega))
          · have : asks 1 l = false := by simp [asks, hc]
            rw [this]
            exact V.okc (k := .i64) (m := l.length) (n := 1) rfl rfl (V.c_eqlF (by omega))
        · split at hf
          · rename_i h1
            simp only [List.mem_cons, List.not_mem_nil, or_false] at hf
            subst hf
            subst h1
            by_cases hc : l.length ≤ 1
            · have : asks 3 l = true := by simp [asks, hc]
              rw [this]
              exact V.okc (k := .i64) (m := l.length) (n := 1) rfl rfl (V.c_leqT (by omega))
            · have : asks 3 l = false := by simp [asks]; omega
              rw [this]
              exact V.okc (k := .i64) (m := l.length) (n := 1) rfl rfl (V.c_leqF (by omega))
          · simp at hf) (fun f hf => gBok l l.length f (by simp only [gT, List.mem_cons, List.not_mem_nil, or_false] at hf; subst hf; simp [gB])) _ rfl)
    have rt := V.Run.ins hP (@V.Run.of_uptoD (V.sigOf (sF l l.length)) _ _ hG regs follows _ _ _ _ _ _ _ _ gt (ruT q l.length (asks q l) hq))
    rw [inHF, inRF] at rt
    exact rt

end Go.Proofs.Ytchmhmhjajocnaa.Say
