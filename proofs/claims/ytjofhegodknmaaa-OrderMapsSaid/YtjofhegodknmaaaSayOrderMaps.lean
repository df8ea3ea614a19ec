/- A map's pairs, however they are handed in, are one map: the law. Mine. -/
import Derived.Test.YtjofhegodknmaaaSayOrderRuns
set_option linter.unusedVariables false
set_option linter.unusedSimpArgs false
namespace Go.Proofs.Ytjofhegodknmaaa.Say
open Go Go.RowKit
open V (D)

theorem runR (bs : List Bool) {q k : Nat} (h1 : 1 ≤ q) (hl : q ≤ 10) (hk : k < q) : trueAt (V.exec Try.prog (aR k q) 400 oR (EN bs q)) = true := by
  have key : ∀ {l : List Nat}, l.all (fun q => (List.range q).all fun k => trueAt (V.exec Try.prog (aR k q) 400 oR (EN bs q))) = true → q ∈ l → trueAt (V.exec Try.prog (aR k q) 400 oR (EN bs q)) = true := fun h hq => List.all_eq_true.1 (List.all_eq_true.1 h q hq) k (List.mem_range.2 hk)
  by_cases a : q ≤ 5
  · exact key (runR1 bs) (by simp only [List.mem_cons, List.not_mem_nil, or_false]; omega)
  by_cases b : q ≤ 7
  · exact key (runR2 bs) (by simp only [List.mem_cons, List.not_mem_nil, or_false]; omega)
  by_cases c : q = 8
  · exact key (runR3 bs) (by simp only [List.mem_cons, List.not_mem_nil, or_false]; omega)
  by_cases d : q = 9
  · exact key (runR4 bs) (by simp only [List.mem_cons, List.not_mem_nil, or_false]; omega)
  · exact key (runR5 bs) (by simp only [List.mem_cons, List.not_mem_nil, or_false]; omega)
def zQ (bs : List Bool) : V.St := ⟨tE (.sym 80) (.dat .nil), [(48, seenO bs)], 2000⟩
def t0R : V.Tbl := [(13, [([mapD .nil], [mapD .nil, .int .i64 0])]), (11, [([mapD .nil, mapD .nil], [.bool true])])]
def a0R : V.An := { anE with spec := V.inTbl t0R }
set_option maxRecDepth 1000000 in
theorem runR0 (bs : List Bool) : trueAt (V.exec Try.prog a0R 400 oR (zQ bs)) = true := by kernel_rfl
/-- the state behind the loop -/
def EO (bs : List Bool) (tu : Int) (ps : List (Int × Int)) : V.St := ⟨tE (.int .u8 tu) (lA ps), (48, seenO bs) :: mA' ps, 2000⟩
theorem inSeen (σ : Nat → D) (bs : List Bool) : V.inO σ (seenO bs) = seenO bs := by
  simp only [V.inO, seenO, V.inUs_eq, List.map_map]
  congr 1
theorem tailRun (bs : List Bool) {ps : List (Int × Int)} (hl : ps.length ≤ 10) (hn : ps.Pairwise fun a b => a.1 ≠ b.1) (tu : Int) (h0 : 0 ≤ tu) (h1 : tu ≤ 255) : ∃ s', V.Run Try.prog oR (EO bs tu ps) .ret s' ∧ s'.tm[4]? = some (.dat (.bool true)) := by
  have hP := plainR tu ps
  have fin : ∀ {s s' : V.St} {an : V.An}, @V.Good (V.sigOf (sR tu ps)) Try.prog an → V.exec Try.prog an 400 oR s = some (.ret, s') → s'.tm[4]? = some (.dat (.bool true)) → V.inS (sR tu ps) s = EO bs tu ps → ∃ s', V.Run Try.prog oR (EO bs tu ps) .ret s' ∧ s'.tm[4]? = some (.dat (.bool true)) := by
    intro s s' an hg he ht hs
    have r := V.Run.ins hP (@V.Run.of_exec (V.sigOf (sR tu ps)) _ _ hg regs follows _ _ _ _ _ regsOm.2.2.2.2.2.2 he)
    rw [hs] at r
    refine ⟨_, r, ?_⟩
    show (V.inUs (sR tu ps) s'.tm)[4]? = _
    rw [V.inUs_eq, List.getElem?_map, ht]
    rfl
  by_cases hz : ps.length = 0
  · obtain rfl := List.length_eq_zero_iff.1 hz
    obtain ⟨s', he, ht⟩ := trueAt_ok (runR0 bs)
    have g1 : @V.Holds (V.sigOf (sR tu [])) Try.prog 13 [mapD .nil] [mapD .nil, .int .i64 0] := @V.holds_of_tells (V.sigOf (sR tu [])) _ _ (goodE _) regs follows _ _ _ _ runW0
    have g2 : @V.Holds (V.sigOf (sR tu [])) Try.prog 11 [mapD .nil, mapD .nil] [.bool true] := @V.holds_of_tells (V.sigOf (sR tu [])) _ _ (goodE _) regs follows _ _ _ _ runTw0
    have ht2 : @V.TblOk (V.sigOf (sR tu [])) Try.prog t0R := @V.TblOk.cons (V.sigOf (sR tu [])) _ _ _ _ (@V.RowOk.cons (V.sigOf (sR tu [])) _ _ _ _ _ g1 (@V.RowOk.nil (V.sigOf (sR tu [])) _ _)) (@V.TblOk.cons (V.sigOf (sR tu [])) _ _ _ _ (@V.RowOk.cons (V.sigOf (sR tu [])) _ _ _ _ _ g2 (@V.RowOk.nil (V.sigOf (sR tu [])) _ _)) (@V.TblOk.nil (V.sigOf (sR tu [])) _))
    have hg : @V.Good (V.sigOf (sR tu [])) Try.prog a0R := @V.Good.mk (V.sigOf (sR tu [])) _ _ named (@V.spec_of_tbl (V.sigOf (sR tu [])) _ _ ht2) (fun _ _ _ _ h => nomatch h) (@V.call_none (V.sigOf (sR tu [])) _ _ rfl)
    refine fin hg he ht ?_
    simp only [zQ, EO, tE, V.inS, V.inUs_eq, V.inSt, inSeen, List.map_append, List.map_cons, List.map_nil, V.inU, V.inD, List.map_replicate]
    rfl
  · have hq1 : 1 ≤ ps.length := by omega
    have hs := sortP_len ps
    have hqI : (0 : Int) < ps.length := by omega
    obtain ⟨k, hk⟩ : ∃ k : Nat, k = tu.toNat % ps.length := ⟨_, rfl⟩
    have hkl : k < ps.length := by rw [hk]; exact Nat.mod_lt _ (by omega)
    have hkm : tu.tmod ps.length = (k : Int) := by
      rw [Int.tmod_eq_emod_of_nonneg h0, hk, Int.natCast_emod, Int.toNat_of_nonneg h0]
    obtain ⟨s', he, ht⟩ := trueAt_ok (runR bs hq1 hl hkl)
    have e0 : V.inDs (sR tu ps) (nmV 0 ps.length) = kvs ps := by rw [inR tu ps 0 _ (by omega)]; exact inNmV0 ps (sortP ps) (by omega)
    have e4 : V.inDs (sR tu ps) (nmV 40 ps.length) = kvs (sortP ps) := by
      rw [inR tu ps 40 _ (by omega)]
      have := inNmV4 ps (sortP ps) (by omega)
      rw [hs] at this
      exact this
    have er : V.inDs (sR tu ps) (rotN k ps.length) = kvs (rot k ps) := by
      unfold rotN rot
      rw [V.inDs_eq, List.map_append, List.map_drop, List.map_take, ← V.inDs_eq, e0, kvs_app, kvs_drop, kvs_take]
    have l0 : lstP ps = .lst (kvs ps) := if_neg hz
    have ls : lstP (sortP ps) = .lst (kvs (sortP ps)) := if_neg (by omega)
    have hrl : (rot k ps).length = ps.length := (rot_perm k ps).length_eq
    have lr : lstP (rot k ps) = .lst (kvs (rot k ps)) := if_neg (by omega)
    have g1 : @V.Holds (V.sigOf (sR tu ps)) Try.prog 13 [mapD (.lst (nmV 0 ps.length))] [mapD (.lst (nmV 40 ps.length)), .int .i64 0] := V.Holds.outs hP (by
      have h := normalHolds hl hn
      rw [l0, ls] at h
      simp only [V.inDs, V.inD, mapD, mt, V.txt, e0, e4]
      exact h)
    have g2 : @V.Holds (V.sigOf (sR tu ps)) Try.prog 13 [mapD (.lst (rotN k ps.length))] [mapD (.lst (nmV 40 ps.length)), .int .i64 0] := V.Holds.outs hP (by
      have h := normalHolds (ps := rot k ps) (by omega) ((rot_perm k ps).symm.pairwise hn fun h => Ne.symm h)
      rw [sort_rot hn, lr, ls] at h
      simp only [V.inDs, V.inD, mapD, mt, V.txt, er, e4]
      exact h)
    have g3 : @V.Holds (V.sigOf (sR tu ps)) Try.prog 11 [mapD (.lst (nmV 40 ps.length)), mapD (.lst (nmV 40 ps.length))] [.bool true] := V.Holds.outs hP (by
      have h := twinsHolds (ps := sortP ps) (by omega)
      rw [ls] at h
      simp only [V.inDs, V.inD, mapD, mt, V.txt, e4]
      exact h)
    have ht2 : @V.TblOk (V.sigOf (sR tu ps)) Try.prog (tR k ps.length) := @V.TblOk.cons (V.sigOf (sR tu ps)) _ _ _ _ (@V.RowOk.cons (V.sigOf (sR tu ps)) _ _ _ _ _ g1 (@V.RowOk.cons (V.sigOf (sR tu ps)) _ _ _ _ _ g2 (@V.RowOk.nil (V.sigOf (sR tu ps)) _ _))) (@V.TblOk.cons (V.sigOf (sR tu ps)) _ _ _ _ (@V.RowOk.cons (V.sigOf (sR tu ps)) _ _ _ _ _ g3 (@V.RowOk.nil (V.sigOf (sR tu ps)) _ _)) (@V.TblOk.nil (V.sigOf (sR tu ps)) _))
    have hf : ∀ f ∈ fR k ps.length, @V.Fact.ok (V.sigOf (sR tu ps)) Try.prog f := by
      letI : V.Sig := V.sigOf (sR tu ps)
      intro f hf
      rcases List.mem_append.1 hf with hf | hf
      · simp only [List.mem_cons, List.not_mem_nil, or_false] at hf
        rcases hf with rfl | rfl
        · have hc : IntKind.i64.wrap tu = tu := by rw [V.wr_i64]; omega
          refine V.okv (k := .u8) (j := .i64) (n := tu) Try.underlying5 rfl Try.underlying3 ?_
          rw [hc]
          rfl
        · refine V.oka (k := .i64) (m := tu) (n := ps.length) (r := k) rfl rfl ?_ rfl
          simp only [V.ariI]
          rw [if_neg (by omega), hkm]
      · obtain ⟨i, hi, rfl⟩ := List.mem_map.1 hf
        have hi' : i + 1 < ps.length := by have := List.mem_range.1 hi; omega
        have hlt := rise hn hi'
        obtain ⟨_, _, k0, _⟩ := sP_key ps (sortP ps) i (by omega)
        obtain ⟨_, _, k1, _⟩ := sP_key ps (sortP ps) (i + 1) (by omega)
        refine V.okc (k := .i64) (m := ((sortP ps).getD i (0, 0)).1) (n := ((sortP ps).getD (i + 1) (0, 0)).1) ?_ ?_ (V.c_geqF hlt)
        · show sR tu ps (40 + i) = _
          rw [sR_lt tu ps (by omega), k0]
          rfl
        · show sR tu ps (41 + i) = _
          rw [sR_lt tu ps (by omega), show 41 + i = 40 + (i + 1) by omega, k1]
          rfl
    have hg : @V.Good (V.sigOf (sR tu ps)) Try.prog (aR k ps.length) := @V.Good.mk (V.sigOf (sR tu ps)) _ _ named (@V.spec_of_tbl (V.sigOf (sR tu ps)) _ _ ht2) (@V.orc_of (V.sigOf (sR tu ps)) _ _ hf _ rfl) (@V.call_none (V.sigOf (sR tu ps)) _ _ rfl)
    refine fin hg he ht ?_
    obtain ⟨q, hq⟩ : ∃ q, ps.length = q + 1 := ⟨ps.length - 1, by omega⟩
    have ea : lA ps = .own 1080 (ps.length - 1) 0 (2 * ps.length) := by unfold lA; rw [hq]; rfl
    have em : mA' ps = [(1080, rowA (ps.length - 1) ps)] := by unfold mA'; rw [hq]; rfl
    have e5 := in5 tu ps (by omega)
    unfold EO EN
    rw [ea, em]
    simp only [tE, V.inS, V.inUs_eq, V.inSt, List.map_append, List.map_cons, List.map_nil, V.inU, V.inD, List.map_replicate, inSeen, inRow5, e5]
    rfl

/-! What is ahead of the loop. -/
def zO (L : D) (tu : D) : V.St := ⟨[.dat L, .dat tu] ++ List.replicate 120 .undef, [], 0⟩
def tB : V.Tbl := [(12, [([], [.bool true])])]
def aBe : V.An := { anE with spec := V.inTbl tB }
theorem tBOk {s : V.Sig} : @V.TblOk s Try.prog tB := @V.TblOk.cons s _ _ _ _ (@V.RowOk.cons s _ _ _ _ _ (@begunHolds s) (@V.RowOk.nil s _ _)) (@V.TblOk.nil s _)
theorem goodBe (s : V.Sig) : @V.Good s Try.prog aBe := by
  have h := @tBOk s
  exact @V.Good.mk s _ _ named (@V.spec_of_tbl s _ _ h) (fun _ _ _ _ h => nomatch h) (@V.call_none s _ _ rfl)
def zA0 (L tu : D) : V.St := ⟨[.dat L, .dat tu, .undef, .undef, .dat (.bool false)] ++ List.replicate 117 .undef, [], 8⟩
def zA1 (L tu : D) : V.St := ⟨[.dat L, .dat tu, .undef, .undef, .dat (.bool false)] ++ List.replicate 10 .undef ++ [.dat (.bool true), .dat (.bool false)] ++ List.replicate 105 .undef, [], 24⟩
def zA3 (L tu : D) (b : Bool) : V.St := ⟨[.dat L, .dat tu] ++ List.replicate 17 .junk ++ [.dat (.bool b)] ++ List.replicate 102 .junk, [], 48⟩
def kA3 : List Bool := [true, true] ++ List.replicate 17 false ++ [true]
theorem runA (L : List D) (tu : D) : V.exec Try.prog aBe 400 o0 (zO (.lst L) tu) = some (.normal, zA0 (.lst L) tu) ∧ V.exec Try.prog aBe 400 o1 (zA0 (.lst L) tu) = some (.normal, zA1 (.lst L) tu) := ⟨by kernel_rfl, by kernel_rfl⟩
theorem ord3 (L : List D) (tu : D) (r : Bool) (hr : V.cmpI .gtr (L.length : Int) 10 = some r) : V.Run Try.prog o3 (zA1 (.lst L) tu) .normal (zA3 (.lst L) tu r) := by
  rw [eo3]
  apply V.Run.stepsL (goodE _) regs follows (keep := kA3) (ids := []) (nx := 48) (by rw [← eo3]; exact regsOm.2.2.1.1)
  · apply V.Steps.auto; kernel_rfl; kernel_rfl; kernel_rfl; kernel_rfl
    apply V.Steps.auto; kernel_rfl; kernel_rfl; kernel_rfl; kernel_rfl
    apply V.Steps.op; kernel_rfl; kernel_rfl; kernel_rfl; exact ((V.st_cmp (op := .gtr) (x := .tmp 18) (y := .const (.int .i64 10)) (k := .i64) (m := (L.length : Int)) (n := 10) (r := r) (by kernel_rfl) (by kernel_rfl) (by kernel_rfl) hr))
    exact V.Steps.done (by kernel_rfl) rfl
  · rfl
  · exact V.AllKept.nil
  · kernel_rfl
  · kernel_rfl
  · kernel_rfl
  · kernel_rfl
def zA5 (L tu : D) : V.St := ⟨[.dat L, .dat tu, .junk, .junk, .junk, .ptr 48 0 0] ++ List.replicate 116 .junk, [(48, seenO (List.replicate 256 false))], 100⟩
def zA6 (L tu : D) : V.St := ⟨[.dat L, .dat tu, .junk, .junk, .junk, .ptr 48 0 0, .dat .nil, .dat .nil] ++ List.replicate 114 .junk, [(48, seenO (List.replicate 256 false))], 100⟩
set_option maxRecDepth 1000000 in
theorem ord5 (L tu : D) : V.Run Try.prog o5 (zA3 L tu false) .normal (zA5 L tu) := by
  rw [eo5]
  apply V.Run.stepsL (goodE _) regs follows (keep := [true, true, false, false, false, true]) (ids := [48]) (nx := 100) (by rw [← eo5]; exact regsOm.2.2.2.1)
  · apply V.Steps.auto; kernel_rfl; kernel_rfl; kernel_rfl; kernel_rfl
    exact V.Steps.done (by kernel_rfl) rfl
  · rfl
  · exact V.AllKept.cons (by kernel_rfl) (congrArg (fun l => List.all l _) (seen_refs _)) V.AllKept.nil
  · kernel_rfl
  · kernel_rfl
  · kernel_rfl
  · kernel_rfl
theorem ord6 (L tu : D) : V.Run Try.prog o6 (zA5 L tu) .normal (zA6 L tu) := by
  rw [eo6]
  apply V.Run.stepsL (goodE _) regs follows (keep := [true, true, false, false, false, true, true, true]) (ids := [48]) (nx := 100) (by rw [← eo6]; exact regsOm.2.2.2.2.1)
  · apply V.Steps.auto; kernel_rfl; kernel_rfl; kernel_rfl; kernel_rfl
    apply V.Steps.auto; kernel_rfl; kernel_rfl; kernel_rfl; kernel_rfl
    exact V.Steps.done (by kernel_rfl) rfl
  · rfl
  · exact V.AllKept.cons (by kernel_rfl) (congrArg (fun l => List.all l _) (seen_refs _)) V.AllKept.nil
  · kernel_rfl
  · kernel_rfl
  · kernel_rfl
  · kernel_rfl
theorem ord7 (L : List D) (tu : D) : V.Run Try.prog o7 (zA6 (.lst L) tu) .normal (HO L tu (List.replicate 256 false) [] 0) := by
  rw [eo7]
  apply V.Run.stepsL (goodE _) regs follows (keep := kH) (ids := [48]) (nx := 1000) (by rw [← eo7]; exact regsOm.2.2.2.2.2.1.1)
  · apply V.Steps.auto; kernel_rfl; kernel_rfl; kernel_rfl; kernel_rfl
    exact V.Steps.done (by kernel_rfl) rfl
  · rfl
  · exact V.AllKept.cons (by kernel_rfl) (congrArg (fun l => List.all l _) (seen_refs _)) V.AllKept.nil
  · kernel_rfl
  · kernel_rfl
  · kernel_rfl
  · kernel_rfl
theorem inv0 : Inv (List.replicate 256 false) [] 0 := ⟨List.length_replicate, fun p hp => absurd hp (by simp), List.Pairwise.nil, Nat.le_refl 0⟩
theorem whole {l : List Int} (hr : ∀ n ∈ l, -128 ≤ n ∧ n ≤ 127) (tu : Int) (h0 : 0 ≤ tu) (h1 : tu ≤ 255) : ∃ s', V.Run Try.prog oA (zO (.lst (l.map (.int .i8))) (.int .u8 tu)) .ret s' ∧ s'.tm[4]? = some (.dat (.bool true)) := by
  obtain ⟨p0, p1⟩ := runA (l.map (.int .i8)) (.int .u8 tu)
  have r0 := @V.Run.of_exec V.sig0 _ _ (goodBe _) regs follows _ _ _ _ _ regsOm.1 p0
  have r1 := @V.Run.of_exec V.sig0 _ _ (goodBe _) regs follows _ _ _ _ _ regsOm.2.1 p1
  by_cases hl : l.length ≤ 10
  · have r3 := ord3 (l.map (.int .i8)) (.int .u8 tu) false (V.c_gtrF (by rw [List.length_map]; omega))
    have c3 : V.Run Try.prog (.cond (.tmp 19) o4 .skip) (zA3 (.lst (l.map (.int .i8))) (.int .u8 tu) false) .normal _ := V.Run.cond_false rfl (V.Run.skip (goodE V.sig0) regs follows)
    obtain ⟨bs, ps, hI, hL⟩ := ordLoop hr hl (.int .u8 tu) l.length 0 _ [] (by omega) inv0
    have rL := V.Run.block_to (id := 0) (V.Run.loop hL)
    have hfew := hI.few
    have hb := besA ps
    have rL' : V.Run Try.prog (.block 0 (.loop oLp)) (HO (l.map (.int .i8)) (.int .u8 tu) (List.replicate 256 false) [] 0) .normal (EO bs tu ps) :=
      V.Run.weakL rL (keep := kE) (ids := 48 :: (mA' ps).map Prod.fst) (nx := 2000) rfl (hb.kept bs) (by
        have e : V.maskU kE (sH (l.map (.int .i8)) (.int .u8 tu) bs (lA ps) (mA' ps) (nA ps) (iv l.length) (.dat (.bool false)) .junk).tm = tE (.int .u8 tu) (lA ps) := by kernel_rfl
        have e2 : V.refsL (tE (.int .u8 tu) (lA ps)) = V.refs (lA ps) := by simp only [tE, List.cons_append, List.nil_append, V.refsL, V.refs, List.replicate, List.append_nil]
        rw [e, e2]
        exact hb.led) rfl (by unfold mA'; cases ps.length <;> kernel_rfl) (by kernel_rfl)
    obtain ⟨s', rT, ht⟩ := tailRun bs (by omega) hI.unlike tu h0 h1
    refine ⟨s', ?_, ht⟩
    rw [shapeOm]
    exact V.Run.seq r0 (V.Run.seq r1 (V.Run.seq (V.Run.seq r3 c3) (V.Run.seq (ord5 _ _) (V.Run.seq (ord6 _ _) (V.Run.seq (V.Run.seq (ord7 _ _) rL') rT)))))
  · have r3 := ord3 (l.map (.int .i8)) (.int .u8 tu) true (V.c_gtrT (by rw [List.length_map]; omega))
    have r4 : V.Run Try.prog o4 (zA3 (.lst (l.map (.int .i8))) (.int .u8 tu) true) .ret (nd (V.exec Try.prog anE 400 o4 (zA3 (.lst (l.map (.int .i8))) (.int .u8 tu) true))) := @V.Run.of_exec V.sig0 _ _ (goodE _) regs follows 400 _ _ _ _ regsOm.2.2.1.2.1 (by kernel_rfl)
    refine ⟨nd (V.exec Try.prog anE 400 o4 (zA3 (.lst (l.map (.int .i8))) (.int .u8 tu) true)), ?_, ?_⟩
    · rw [shapeOm]
      exact V.Run.seq r0 (V.Run.seq r1 (V.Run.seq_out (V.Run.seq r3 (V.Run.cond_true rfl r4)) (by simp)))
    · kernel_rfl
/-- the list as nil -/
def t1R : V.Tbl := (12, [([], [.bool true])]) :: t0R
def a1R : V.An := { anE with spec := V.inTbl t1R }
set_option maxRecDepth 1000000 in
theorem runNil : trueAt (V.exec Try.prog a1R 400 oA (zO .nil (.sym 80))) = true := by kernel_rfl
theorem regsAll : V.Regs oA := regs 5 Try.f5 oA Try.func5 bodyO
theorem wholeNil (tu : Int) : ∃ s', V.Run Try.prog oA (zO .nil (.int .u8 tu)) .ret s' ∧ s'.tm[4]? = some (.dat (.bool true)) := by
  obtain ⟨s', he, ht⟩ := trueAt_ok runNil
  have g1 : @V.Holds (V.sigOf (sR tu [])) Try.prog 13 [mapD .nil] [mapD .nil, .int .i64 0] := @V.holds_of_tells (V.sigOf (sR tu [])) _ _ (goodE _) regs follows _ _ _ _ runW0
  have g2 : @V.Holds (V.sigOf (sR tu [])) Try.prog 11 [mapD .nil, mapD .nil] [.bool true] := @V.holds_of_tells (V.sigOf (sR tu [])) _ _ (goodE _) regs follows _ _ _ _ runTw0
  have ht2 : @V.TblOk (V.sigOf (sR tu [])) Try.prog t1R := @V.TblOk.cons (V.sigOf (sR tu [])) _ _ _ _ (@V.RowOk.cons (V.sigOf (sR tu [])) _ _ _ _ _ begunHolds (@V.RowOk.nil (V.sigOf (sR tu [])) _ _)) (@V.TblOk.cons (V.sigOf (sR tu [])) _ _ _ _ (@V.RowOk.cons (V.sigOf (sR tu [])) _ _ _ _ _ g1 (@V.RowOk.nil (V.sigOf (sR tu [])) _ _)) (@V.TblOk.cons (V.sigOf (sR tu [])) _ _ _ _ (@V.RowOk.cons (V.sigOf (sR tu [])) _ _ _ _ _ g2 (@V.RowOk.nil (V.sigOf (sR tu [])) _ _)) (@V.TblOk.nil (V.sigOf (sR tu [])) _)))
  have hg : @V.Good (V.sigOf (sR tu [])) Try.prog a1R := @V.Good.mk (V.sigOf (sR tu [])) _ _ named (@V.spec_of_tbl (V.sigOf (sR tu [])) _ _ ht2) (fun _ _ _ _ h => nomatch h) (@V.call_none (V.sigOf (sR tu [])) _ _ rfl)
  have r := V.Run.ins (plainR tu []) (@V.Run.of_exec (V.sigOf (sR tu [])) _ _ hg regs follows _ _ _ _ _ regsAll he)
  refine ⟨V.inS (sR tu []) s', r, ?_⟩
  show (V.inUs (sR tu []) s'.tm)[4]? = _
  rw [V.inUs_eq, List.getElem?_map, ht]
  rfl
theorem OrderMaps (W : World) (a0 : Option Addr) (len0 cap0 : Nat) (z0 : List Int) (a1 : Int)
    (w0 : (a0 = none ∧ len0 = 0 ∧ cap0 = 0 ∧ z0 = []) ∨ ∃ x, a0 = some x ∧ len0 ≤ cap0 ∧ cap0 ≤ maxLen ∧ z0.length = cap0 ∧ (∀ i, i < z0.length → W.cell? (x.add i) = some (.int .i8 (z0.getD i 0))) ∧ ∀ n ∈ z0, (Lit.int .i8 n).wf = true)
    (w1 : (Lit.int .u8 a1).wf = true) : Calls Try.prog 5 #[.slice a0 len0 cap0, .int .u8 a1] W (fun e W' => e = .returned (.bool true) ∧ Below W.heap.size W W') := by
  have b1 := V.wf_int w1
  simp only [IntKind.min, IntKind.max, IntKind.signed, IntKind.bits, Bool.false_eq_true, if_false] at b1
  have hr : Try.f5.results.toList = [.tmp 4] := by kernel_rfl
  have hrep := V.rep_row (k := .i8) w0
  have fin : ∀ {s' : V.St} {d : D}, V.rowD .i8 a0 len0 z0 = d → V.Run Try.prog oA (zO d (.int .u8 a1)) .ret s' → s'.tm[4]? = some (.dat (.bool true)) → Calls Try.prog 5 #[.slice a0 len0 cap0, .int .u8 a1] W (fun e W' => e = .returned (.bool true) ∧ Below W.heap.size W W') := by
    intro s' d hd r ht
    rw [hd] at hrep
    refine V.law_of_run (us0 := [.dat d, .dat (.int .u8 a1)]) Try.func5 bodyO r (.inr rfl) ?_ (V.args_cons hrep (V.args_cons (.int _ _) V.args_nil))
    rw [hr, List.mapM_cons]
    simp only [V.resU, ht]
    rfl
  cases a0 with
  | none =>
    obtain ⟨s', r, ht⟩ := wholeNil a1
    exact fin rfl r ht
  | some x =>
    have hwf : ∀ n ∈ z0.take len0, -128 ≤ n ∧ n ≤ 127 := by
      intro n hn
      rcases w0 with ⟨h, _⟩ | ⟨_, _, _, _, _, _, h⟩
      · exact absurd h (by simp)
      · have := V.wf_int (h n (List.mem_of_mem_take hn))
        simp only [IntKind.min, IntKind.max, IntKind.signed, IntKind.bits, if_true] at this
        omega
    obtain ⟨s', r, ht⟩ := whole hwf a1 (by omega) (by omega)
    exact fin rfl r ht
end Go.Proofs.Ytjofhegodknmaaa.Say
