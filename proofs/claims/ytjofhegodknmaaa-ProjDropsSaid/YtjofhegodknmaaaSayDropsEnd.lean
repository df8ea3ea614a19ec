/- Of a struct just the fields that the other one has stay: what is behind the law's loop. Mine. -/
import Derived.Test.YtjofhegodknmaaaSayDropsLoop
set_option linter.unusedVariables false
set_option linter.unusedSimpArgs false
namespace Go.Proofs.Ytjofhegodknmaaa.Say
open Go Go.RowKit
open V (D)

/-! A struct is its own twin. -/
def fTw (w : Nat) : List V.Fact := .cmp .neq (.sym 40) (.sym 40) false :: (List.range w).map fun k => .cmp .neq (.sym k) (.sym k) false
def aTw (w : Nat) : V.An := { anE with orc := V.orcOf (fTw w) }
set_option maxRecDepth 1000000 in
theorem runTws : upto12.all (fun w => V.tells Try.prog (aTw w) 400 11 [stD (.sym 40) (nms w), stD (.sym 40) (nms w)] [.bool true]) = true := by kernel_rfl
theorem twinsD (n : Int) {ks : List Int} (hl : ks.length ≤ 12) : @V.Holds V.sig0 Try.prog 11 [stD (nI n) (nIs ks), stD (nI n) (nIs ks)] [.bool true] := by
  have hs : ∀ j, j < ks.length → sN n ks j = nI (ks.getD j 0) := by
    intro j hj
    unfold sN
    rw [if_neg (by omega)]
  have hg : @V.Good (V.sigOf (sN n ks)) Try.prog (aTw ks.length) := by
    refine @V.Good.mk (V.sigOf (sN n ks)) _ _ named (fun _ _ _ h => nomatch h) (@V.orc_of (V.sigOf (sN n ks)) _ _ (fun f hf => ?_) _ rfl) (@V.call_none (V.sigOf (sN n ks)) _ _ rfl)
    letI : V.Sig := V.sigOf (sN n ks)
    simp only [fTw, List.mem_cons, List.mem_map, List.mem_range] at hf
    rcases hf with rfl | ⟨k, hk, rfl⟩
    · exact V.okc (k := .i64) (m := n) (n := n) rfl rfl (V.c_neqF rfl)
    · exact V.okc (k := .i64) (m := ks.getD k 0) (n := ks.getD k 0) (hs k hk) (hs k hk) (V.c_neqF rfl)
  have r := V.Holds.ins (plainN n ks) (@V.holds_of_tells (V.sigOf (sN n ks)) _ _ hg regs follows _ _ _ _ (at12 runTws hl))
  simp only [V.inDs, inStD, inNms (sN n ks) ks hs, V.inD] at r
  exact r

/-! Behind the loop. 70, 71: how many numbers the value has, and what stays of it. -/
def zEnd : V.St := ⟨List.replicate 7 .junk ++ [.ptr 104 0 0, .ptr 112 0 0, .ptr 144 0 0] ++ List.replicate 120 .junk, [(104, valO [.dat (.int .i64 12), .dat (.int .i64 0), .dat mt, .dat (.sym 52), .dat (.sym 51)]), (112, valO [.dat (.int .i64 12), .dat (.int .i64 0), .dat mt, .dat (.sym 54), .dat (.sym 53)]), (144, ⟨31, 3, true, 0, false, [.dat (.int .i64 4), .dat mt, .dat (.sym 50)]⟩)], 50000⟩
def tEd (bd : Bool) : V.Tbl := [(10, [([sch, xD (.int .i64 4) (.sym 50), vN (.sym 52) (.sym 51)], [vN (.sym 54) (.sym 53), .int .i64 0]), ([sch, xD (.int .i64 5) (.sym 50), vN (.sym 52) (.sym 51)], [resN bd, .int .i64 (errE bd)])]), (11, [([vN (.sym 54) (.sym 53), vN (.sym 54) (.sym 53)], [.bool true])])]
def fEd (b1 b2 : Bool) : List V.Fact := [.cmp .eql (.sym 70) (.int .i64 1) b1, .cmp .eql (.sym 71) (.int .i64 1) b2]
def gEd : List V.Gact := [.len 26 (.sym 51) (.sym 70), .len 26 (.sym 53) (.sym 71)]
def aEd (bd b1 b2 : Bool) : V.An := { anE with spec := V.inTbl (tEd bd), orc := V.orcOr (V.orcOf (fEd b1 b2)) (V.orcG gEd) }
def trueAt6 (o : Option (V.X × V.St)) : Bool :=
  match o with
  | some (V.X.ret, s) =>
    match s.tm[6]? with
    | some (V.U.dat (D.bool b)) => b
    | _ => false
  | _ => false
theorem trueAt6_ok {o : Option (V.X × V.St)} (h : trueAt6 o = true) : ∃ s, o = some (.ret, s) ∧ s.tm[6]? = some (.dat (.bool true)) := by
  unfold trueAt6 at h
  split at h
  · rename_i s
    split at h
    · rename_i b hb
      refine ⟨s, rfl, ?_⟩
      rw [hb, h]
    · simp at h
  · simp at h
set_option maxRecDepth 1000000 in
theorem runEd : trueAt6 (V.exec Try.prog (aEd false true true) 400 dR zEnd) = true ∧ trueAt6 (V.exec Try.prog (aEd true false false) 400 dR zEnd) = true ∧ trueAt6 (V.exec Try.prog (aEd true true false) 400 dR zEnd) = true ∧ trueAt6 (V.exec Try.prog (aEd true false true) 400 dR zEnd) = true :=
  ⟨by kernel_rfl, by kernel_rfl, by kernel_rfl, by kernel_rfl⟩
def sZ (n : Int) (xs vs ks : List Int) : Nat → D
  | 50 => fds xs
  | 51 => rowD (nIs vs)
  | 52 => valsD n vs
  | 53 => rowD (nIs ks)
  | 54 => valsD n ks
  | 70 => nI vs.length
  | 71 => nI ks.length
  | _ => .nil
theorem plainZ (n : Int) (xs vs ks : List Int) : V.Plain (sZ n xs vs ks) := by
  constructor
  · intro j
    unfold sZ
    split <;> first | rfl | exact rowD_one _
  · intro j
    unfold sZ
    split <;> first | rfl | exact no_fds _ | exact no_nIs _ | exact no_vals _ _
/-- the state behind the loop -/
def ZE (n : Int) (xs vs ks : List Int) : V.St := ⟨List.replicate 7 .junk ++ [.ptr 104 0 0, .ptr 112 0 0, .ptr 144 0 0] ++ List.replicate 120 .junk, [(104, valO [.dat (.int .i64 12), .dat (.int .i64 0), .dat mt, .dat (valsD n vs), .dat (rowD (nIs vs))]), (112, valO [.dat (.int .i64 12), .dat (.int .i64 0), .dat mt, .dat (valsD n ks), .dat (rowD (nIs ks))]), (144, ⟨31, 3, true, 0, false, [.dat (.int .i64 4), .dat mt, .dat (fds xs)]⟩)], 50000⟩
theorem inZE (n : Int) (xs vs ks : List Int) : V.inS (sZ n xs vs ks) zEnd = ZE n xs vs ks := by
  simp only [zEnd, ZE, V.inS, V.inUs_eq, V.inSt, V.inO, valO, mt, V.txt, List.map_append, List.map_cons, List.map_nil, V.inU, V.inD, List.map_replicate]
  rfl
theorem len_row (n : Int) (xs vs ks : List Int) {a : Nat} {l : List Int} (ha : sZ n xs vs ks a = rowD (nIs l)) {b : Nat} (hb : sZ n xs vs ks b = nI l.length) : @V.Gact.ok (V.sigOf (sZ n xs vs ks)) Try.prog (.len 26 (.sym a) (.sym b)) := by
  letI : V.Sig := V.sigOf (sZ n xs vs ks)
  refine ⟨l.length, hb, .inl ⟨⟨_, Try.underlying26⟩, ?_⟩⟩
  by_cases h : l.length = 0
  · refine .inl ⟨?_, h⟩
    show sZ n xs vs ks a = .nil
    rw [ha]
    exact if_pos (by simpa [nIs] using h)
  · refine .inr ⟨nIs l, ?_, by simp [nIs]⟩
    show sZ n xs vs ks a = .lst (nIs l)
    rw [ha]
    exact lst_of (by simp [nIs]; omega)
theorem kept_all {xs vs : List Int} (h : outs xs vs = false) : kept xs vs = vs := by
  unfold outs at h
  rw [List.any_eq_false] at h
  unfold kept
  rw [List.filter_eq_self]
  intro v hv
  have := h v hv
  simpa using this
theorem endRun (n : Int) {xs vs : List Int} (hx : xs.length ≤ 12) (hv : vs.length ≤ 12) (hu : vs.Pairwise (· < ·)) : ∃ s', V.Run Try.prog dR (ZE n xs vs (kept xs vs)) .ret s' ∧ s'.tm[6]? = some (.dat (.bool true)) := by
  have hP := plainZ n xs vs (kept xs vs)
  have hA := asHolds 4 n hx hv hu false (by decide) (by decide)
  have hB := asHolds 5 n hx hv hu true (by decide) (by decide)
  have hkl : (kept xs vs).length ≤ 12 := Nat.le_trans (List.length_filter_le _ _) hv
  have hT := twinsD n hkl
  have hbf : bad false (outs xs vs) (kept xs vs).length = false := rfl
  rw [hbf] at hA
  obtain ⟨bd, hbd⟩ : ∃ bd, bad true (outs xs vs) (kept xs vs).length = bd := ⟨_, rfl⟩
  rw [hbd] at hB
  have ex : ∀ kind : Int, V.inD (sZ n xs vs (kept xs vs)) (xD (.int .i64 kind) (.sym 50)) = xD (nI kind) (fds xs) := by
    intro kind
    simp only [xD, mt, V.txt, V.inDs, V.inD]
    rfl
  have ev : V.inD (sZ n xs vs (kept xs vs)) (vN (.sym 52) (.sym 51)) = stD (nI n) (nIs vs) := by
    rw [stD_eq]
    simp only [vN, mt, V.txt, V.inDs, V.inD]
    rfl
  have ew : V.inD (sZ n xs vs (kept xs vs)) (vN (.sym 54) (.sym 53)) = stD (nI n) (nIs (kept xs vs)) := by
    rw [stD_eq]
    simp only [vN, mt, V.txt, V.inDs, V.inD]
    rfl
  have er : V.inD (sZ n xs vs (kept xs vs)) (resN bd) = resE bd (nI n) (nIs (kept xs vs)) := by
    cases bd
    · exact ew
    · rfl
  have g1 : @V.Holds (V.sigOf (sZ n xs vs (kept xs vs))) Try.prog 10 [sch, xD (.int .i64 4) (.sym 50), vN (.sym 52) (.sym 51)] [vN (.sym 54) (.sym 53), .int .i64 0] := by
    refine V.Holds.outs hP ?_
    simp only [V.inDs, ex, ev, ew, V.inD]
    exact hA
  have g2 : @V.Holds (V.sigOf (sZ n xs vs (kept xs vs))) Try.prog 10 [sch, xD (.int .i64 5) (.sym 50), vN (.sym 52) (.sym 51)] [resN bd, .int .i64 (errE bd)] := by
    refine V.Holds.outs hP ?_
    simp only [V.inDs, ex, ev, er, V.inD]
    exact hB
  have g3 : @V.Holds (V.sigOf (sZ n xs vs (kept xs vs))) Try.prog 11 [vN (.sym 54) (.sym 53), vN (.sym 54) (.sym 53)] [.bool true] := by
    refine V.Holds.outs hP ?_
    simp only [V.inDs, ew, V.inD]
    exact hT
  have ht : @V.TblOk (V.sigOf (sZ n xs vs (kept xs vs))) Try.prog (tEd bd) := @V.TblOk.cons (V.sigOf (sZ n xs vs (kept xs vs))) _ _ _ _ (@V.RowOk.cons (V.sigOf (sZ n xs vs (kept xs vs))) _ _ _ _ _ g1 (@V.RowOk.cons (V.sigOf (sZ n xs vs (kept xs vs))) _ _ _ _ _ g2 (@V.RowOk.nil (V.sigOf (sZ n xs vs (kept xs vs))) _ _))) (@V.TblOk.cons (V.sigOf (sZ n xs vs (kept xs vs))) _ _ _ _ (@V.RowOk.cons (V.sigOf (sZ n xs vs (kept xs vs))) _ _ _ _ _ g3 (@V.RowOk.nil (V.sigOf (sZ n xs vs (kept xs vs))) _ _)) (@V.TblOk.nil (V.sigOf (sZ n xs vs (kept xs vs))) _))
  have key : ∀ b1 b2 : Bool, decide (vs.length = 1) = b1 → decide ((kept xs vs).length = 1) = b2 → trueAt6 (V.exec Try.prog (aEd bd b1 b2) 400 dR zEnd) = true → ∃ s', V.Run Try.prog dR (ZE n xs vs (kept xs vs)) .ret s' ∧ s'.tm[6]? = some (.dat (.bool true)) := by
    intro b1 b2 h1 h2 hr
    obtain ⟨s', he, h6⟩ := trueAt6_ok hr
    have hg : @V.Good (V.sigOf (sZ n xs vs (kept xs vs))) Try.prog (aEd bd b1 b2) := by
      refine @V.Good.mk (V.sigOf (sZ n xs vs (kept xs vs))) _ _ named (@V.spec_of_tbl (V.sigOf (sZ n xs vs (kept xs vs))) _ _ ht) (@V.orc_both (V.sigOf (sZ n xs vs (kept xs vs))) _ _ _ (fun f hf => ?_) (fun f hf => ?_) _ rfl) (@V.call_none (V.sigOf (sZ n xs vs (kept xs vs))) _ _ rfl)
      · letI : V.Sig := V.sigOf (sZ n xs vs (kept xs vs))
        simp only [fEd, List.mem_cons, List.not_mem_nil, or_false] at hf
        rcases hf with rfl | rfl
        · refine V.okc (k := .i64) (m := vs.length) (n := 1) rfl rfl ?_
          simp only [V.cmpI, Option.some.injEq, ← h1]
          by_cases h : vs.length = 1
          · simp [h]
          · have : ¬ (vs.length : Int) = 1 := by omega
            simp [h, this]
        · refine V.okc (k := .i64) (m := (kept xs vs).length) (n := 1) rfl rfl ?_
          simp only [V.cmpI, Option.some.injEq, ← h2]
          by_cases h : (kept xs vs).length = 1
          · simp [h]
          · have : ¬ ((kept xs vs).length : Int) = 1 := by omega
            simp [h, this]
      · simp only [gEd, List.mem_cons, List.not_mem_nil, or_false] at hf
        rcases hf with rfl | rfl
        · exact len_row n xs vs (kept xs vs) rfl rfl
        · exact len_row n xs vs (kept xs vs) rfl rfl
    have r := V.Run.ins hP (@V.Run.of_exec (V.sigOf (sZ n xs vs (kept xs vs))) _ _ hg regs follows _ _ _ _ _ regsDm.2.2.2.2.2.2 he)
    rw [inZE] at r
    refine ⟨_, r, ?_⟩
    show (V.inUs _ s'.tm)[6]? = _
    rw [V.inUs_eq, List.getElem?_map, h6]
    rfl
  obtain ⟨e1, e2, e3, e4⟩ := runEd
  have hall : outs xs vs = false → (kept xs vs).length = vs.length := fun h => by rw [kept_all h]
  have hb : bd = (outs xs vs || !(Nat.beq (kept xs vs).length 1)) := by rw [← hbd]; rfl
  by_cases h2 : (kept xs vs).length = 1
  · have hn : Nat.beq (kept xs vs).length 1 = true := by rw [h2]; rfl
    rw [hn] at hb
    by_cases h1 : vs.length = 1
    · have ho : outs xs vs = false := by
        cases h : outs xs vs with
        | false => rfl
        | true =>
          exfalso
          obtain ⟨v, rfl⟩ := List.length_eq_one_iff.1 h1
          rw [outs_cons] at h
          have hno : outs xs [] = false := rfl
          rw [hno, Bool.or_false, decide_eq_true_eq] at h
          rw [kept_cons, if_neg h] at h2
          simp [kept] at h2
      rw [ho] at hb
      simp at hb
      subst hb
      exact key true true (by simp [h1]) (by simp [h2]) e1
    · have ho : outs xs vs = true := by
        cases h : outs xs vs with
        | true => rfl
        | false => exact absurd (by rw [← hall h]; exact h2) h1
      rw [ho] at hb
      simp at hb
      subst hb
      exact key false true (by simp [h1]) (by simp [h2]) e4
  · have hn : Nat.beq (kept xs vs).length 1 = false := by
      cases h : Nat.beq (kept xs vs).length 1 with
      | false => rfl
      | true => exact absurd (Nat.eq_of_beq_eq_true h) h2
    rw [hn] at hb
    simp at hb
    subst hb
    by_cases h1 : vs.length = 1
    · exact key true false (by simp [h1]) (by simp [h2]) e3
    · exact key false false (by simp [h1]) (by simp [h2]) e2
end Go.Proofs.Ytjofhegodknmaaa.Say
