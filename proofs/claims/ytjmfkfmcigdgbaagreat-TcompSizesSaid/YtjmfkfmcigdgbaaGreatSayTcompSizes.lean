/- The law of tcomp's sizes, whole. Mine. -/
import Derived.Test.YtjmfkfmcigdgbaaGreatSayTcRuns
set_option linter.unusedVariables false
set_option linter.unusedSimpArgs false
namespace Go.Proofs.YtjmfkfmcigdgbaaGreat.Say
open Go Go.RowKit
open V (D)

theorem tYOk {n : Int} (h0 : -2147483648 ≤ n) (h1 : n ≤ 2147483647) {m : Nat} (hm : m < 256) {s : Nat} (hs : s ∈ szs) (hc : inCls s (zz n)) : @V.TblOk (V.sigOf (sy n m s)) Tryz.prog tY := by
  have hP := plainSy n m s hm
  have e1 : V.inDs (sy n m s) [sch, tx 8, nv 8, lim] = [sch, tx 8, vv 8 n, lim] := by rfl
  have e2 : V.inDs (sy n m s) [sch, lt 8, wn, lim] = [sch, lt 8, wl 8 n m, lim] := by rfl
  have g0 : @V.Holds (V.sigOf (sy n m s)) Tryz.prog 8 [] [.bool true] := @V.holds_of_tells (V.sigOf (sy n m s)) _ _ (goodAny _) regs follows _ _ _ _ runBeg
  have g1 : @V.Holds (V.sigOf (sy n m s)) Tryz.prog 9 [sch, tx 8, nv 8, lim] [.sym 61, .int .i64 0] := V.Holds.outs hP (by rw [e1]; exact cscal h0 h1 hs hc)
  have g2 : @V.Holds (V.sigOf (sy n m s)) Tryz.prog 9 [sch, lt 8, wn, lim] [.sym 65, .int .i64 0] := V.Holds.outs hP (by rw [e2]; exact encList h0 h1 m hm hs hc)
  have g3 : @V.Holds (V.sigOf (sy n m s)) Tryz.prog 9 [sch, mapT, mapV, lim] [.lst [.int .u8 0], .int .i64 0] := @V.holds_of_tells (V.sigOf (sy n m s)) _ _ (goodAny _) regs follows _ _ _ _ runMap
  have h3 : @V.TblOk (V.sigOf (sy n m s)) Tryz.prog t3 := V.TblOk.any tno to3
  letI : V.Sig := V.sigOf (sy n m s)
  exact V.TblOk.cons (V.RowOk.cons g0 V.RowOk.nil) (V.TblOk.cons (V.RowOk.cons g1 (V.RowOk.cons g2 (V.RowOk.cons g3 V.RowOk.nil))) h3)
theorem c70Ok {n : Int} {m s : Nat} (h0 : -2147483648 ≤ n) (h1 : n ≤ 2147483647) : ∀ f ∈ fC70, @V.Fact.ok (V.sigOf (sy n m s)) Tryz.prog f := by
  letI : V.Sig := V.sigOf (sy n m s)
  intro f hf
  simp only [fC70, List.mem_cons, List.not_mem_nil, or_false] at hf
  subst hf
  refine V.okv (k := .i32) (j := .i64) (n := n) Tryz.underlying21 rfl Tryz.underlying2 ?_
  have : IntKind.i64.wrap n = n := by rw [V.wr_i64]; omega
  rw [this]
  rfl
theorem goodY {n : Int} (h0 : -2147483648 ≤ n) (h1 : n ≤ 2147483647) {m : Nat} (hm : m < 256) {s : Nat} (hs : s ∈ szs) (hc : inCls s (zz n)) {f : List V.Fact} (hf : ∀ x ∈ f, @V.Fact.ok (V.sigOf (sy n m s)) Tryz.prog x) : @V.Good (V.sigOf (sy n m s)) Tryz.prog { an3 with spec := V.inTbl tY, orc := V.orcOf f } := by
  have ht := tYOk h0 h1 hm hs hc
  exact @V.Good.mk (V.sigOf (sy n m s)) _ _ named (@V.spec_of_tbl (V.sigOf (sy n m s)) _ _ ht) (@V.orc_of (V.sigOf (sy n m s)) _ _ hf _ rfl) (@V.call_none (V.sigOf (sy n m s)) _ _ rfl)
theorem fSzOk {n : Int} {m s : Nat} (neg : Bool) (hneg : neg = decide (n < 0)) : ∀ j : Nat, j ≤ 4 → (∀ i, 1 ≤ i → i ≤ j → (if neg then n < -((top i + 1) / 2) else n > (top i - 1) / 2)) → ∀ f ∈ fSz neg j, @V.Fact.ok (V.sigOf (sy n m s)) Tryz.prog f := by
  letI : V.Sig := V.sigOf (sy n m s)
  intro j
  induction j with
  | zero => intro _ _ f hf; simp [fSz] at hf
  | succ j ih =>
    intro hj h f hf
    have hlast := h (j + 1) (by omega) (by omega)
    simp only [fSz, List.mem_append] at hf
    rcases hf with hf | hf
    · exact ih (by omega) (fun i h1 h2 => h i h1 (by omega)) f hf
    · cases neg with
      | true =>
        simp only [if_true, List.mem_cons, List.not_mem_nil, or_false] at hf hlast
        subst hf
        exact V.okc (k := .i64) (m := n) rfl rfl (V.c_lssT hlast)
      | false =>
        simp only [Bool.false_eq_true, if_false, List.mem_cons, List.not_mem_nil, or_false] at hf hlast
        have hn : 0 ≤ n := by have := hneg.symm; simp at this; exact this
        have ht : 0 < top (j + 1) := by unfold top; split <;> (try split) <;> (try split) <;> (try split) <;> omega
        rcases hf with rfl | rfl
        · exact V.okc (k := .i64) (m := n) rfl rfl (V.c_lssF (by omega))
        · exact V.okc (k := .i64) (m := n) rfl rfl (V.c_gtrT hlast)
theorem topE (s : Nat) (hs : s ∈ szs) : top s = 127 ∧ s = 1 ∨ top s = 16383 ∧ s = 2 ∨ top s = 2097151 ∧ s = 3 ∨ top s = 268435455 ∧ s = 4 ∨ top s = 4294967295 ∧ s = 5 := by
  simp only [szs, List.mem_cons, List.not_mem_nil, or_false] at hs
  rcases hs with rfl | rfl | rfl | rfl | rfl <;> simp [top]
theorem szAll {n : Int} (h0 : -2147483648 ≤ n) (h1 : n ≤ 2147483647) {m s : Nat} (hs : s ∈ szs) (hc : inCls s (zz n)) : ∀ f ∈ fC70 ++ fSz (decide (n < 0)) (s - 1) ++ fSo s, @V.Fact.ok (V.sigOf (sy n m s)) Tryz.prog f := by
  have hz := zz_eq n h0 h1
  obtain ⟨ha, hb⟩ := hc
  have hs' := hs
  simp only [szs, List.mem_cons, List.not_mem_nil, or_false] at hs'
  have t1 : top 1 = 127 := rfl
  have t2 : top 2 = 16383 := rfl
  have t3 : top 3 = 2097151 := rfl
  have t4 : top 4 = 268435455 := rfl
  refine app_all (app_all (c70Ok h0 h1) (fSzOk _ rfl (s - 1) (by omega) fun i hi1 hi2 => ?_)) ?_
  · have hi : i = 1 ∨ i = 2 ∨ i = 3 ∨ i = 4 := by omega
    have hbot : top i + 1 ≤ bot s := by
      unfold bot
      rw [if_neg (by omega)]
      rcases hs' with rfl | rfl | rfl | rfl | rfl <;> rcases hi with rfl | rfl | rfl | rfl <;> first | omega | (simp [top])
    have hodd : top i = 127 ∨ top i = 16383 ∨ top i = 2097151 ∨ top i = 268435455 := by rcases hi with rfl | rfl | rfl | rfl <;> simp [top]
    by_cases hn : n < 0
    · rw [if_pos (by simp [hn])]
      rw [if_neg (by omega)] at hz
      omega
    · rw [if_neg (by simp [hn])]
      rw [if_pos (by omega)] at hz
      omega
  · letI : V.Sig := V.sigOf (sy n m s)
    intro f hf
    unfold fSo at hf
    split at hf
    · simp at hf
    · rename_i h5
      have hodd : top s = 127 ∨ top s = 16383 ∨ top s = 2097151 ∨ top s = 268435455 := by rcases hs' with rfl | rfl | rfl | rfl | rfl <;> simp [top] at h5 ⊢
      simp only [List.mem_cons, List.not_mem_nil, or_false] at hf
      by_cases hn : n < 0
      · rw [if_neg (by omega)] at hz
        rcases hf with rfl | rfl
        · exact V.okc (k := .i64) (m := n) rfl rfl (V.c_lssF (by omega))
        · exact V.okc (k := .i64) (m := n) rfl rfl (V.c_gtrF (by omega))
      · rw [if_pos (by omega)] at hz
        rcases hf with rfl | rfl
        · exact V.okc (k := .i64) (m := n) rfl rfl (V.c_lssF (by omega))
        · exact V.okc (k := .i64) (m := n) rfl rfl (V.c_gtrF (by omega))
theorem fROk {n : Int} (h0 : -2147483648 ≤ n) (h1 : n ≤ 2147483647) {m : Nat} (hm : m < 256) {s : Nat} (hs : s ∈ szs) (b1 b2 : Bool) (e1 : b1 = decide (15 ≤ m)) (e2 : b2 = decide (128 ≤ m)) : ∀ f ∈ fR s b1 b2, @V.Fact.ok (V.sigOf (sy n m s)) Tryz.prog f := by
  letI : V.Sig := V.sigOf (sy n m s)
  have hs5 : s ≤ 5 := by simp only [szs, List.mem_cons, List.not_mem_nil, or_false] at hs; omega
  have hms : m * s ≤ 255 * 5 := Nat.mul_le_mul (by omega) hs5
  have hh : (if b2 then 3 else if b1 then 2 else 1 : Int) = (hOf m : Nat) := by
    subst e1; subst e2
    unfold hOf
    by_cases a : m < 15
    · have a1 : ¬ 15 ≤ m := by omega
      have a2 : ¬ 128 ≤ m := by omega
      simp [a, a1, a2]
    · have a1 : 15 ≤ m := by omega
      by_cases b : m < 128
      · have a2 : ¬ 128 ≤ m := by omega
        simp [a, b, a1, a2]
      · have a2 : 128 ≤ m := by omega
        simp [a, b, a1, a2]
  intro f hf
  simp only [fR, List.mem_cons, List.not_mem_nil, or_false] at hf
  rcases hf with rfl | rfl | rfl | rfl | rfl | rfl
  · exact V.okc (k := .u8) (m := m) (n := 15) rfl rfl (by subst e1; simp [V.cmpI]; omega)
  · exact V.okc (k := .u8) (m := m) (n := 128) rfl rfl (by subst e2; simp [V.cmpI]; omega)
  · have hcv : IntKind.i64.wrap (m : Int) = m := by rw [V.wr_i64]; omega
    refine V.okv (k := .u8) (j := .i64) (n := m) Tryz.underlying5 rfl Tryz.underlying3 ?_
    rw [hcv]
    rfl
  · refine V.oka (k := .i64) (m := m) (n := s) (r := ((m * s : Nat) : Int)) rfl rfl ?_ rfl
    simp only [V.ariI, V.wr_i64, Option.some.injEq]
    rw [← Int.natCast_mul]
    omega
  · refine V.oka (k := .i64) (m := (hOf m : Nat)) (n := ((m * s : Nat) : Int)) (r := ((hOf m + m * s : Nat) : Int)) (by rw [hh]; rfl) rfl ?_ rfl
    have : hOf m ≤ 3 := by unfold hOf; split <;> (try split) <;> omega
    simp only [V.ariI, V.wr_i64, Option.some.injEq]
    omega
  · exact V.okc (k := .i64) (m := ((hOf m + m * s : Nat) : Int)) (n := ((hOf m + m * s : Nat) : Int)) rfl rfl (V.c_eqlT rfl)
theorem gROk {n : Int} (h0 : -2147483648 ≤ n) (h1 : n ≤ 2147483647) {m : Nat} (hm : m < 256) {s : Nat} (hs : s ∈ szs) (hc : inCls s (zz n)) : ∀ f ∈ gR s, @V.Gact.ok (V.sigOf (sy n m s)) Tryz.prog f := by
  letI : V.Sig := V.sigOf (sy n m s)
  intro f hf
  simp only [gR, List.mem_cons, List.not_mem_nil, or_false] at hf
  rcases hf with rfl | rfl
  · exact ⟨s, rfl, .inl ⟨⟨_, Tryz.underlying30⟩, .inr ⟨_, rfl, (cb1_length s n hs).symm⟩⟩⟩
  · exact ⟨hOf m + m * s, rfl, .inl ⟨⟨_, Tryz.underlying30⟩, .inr ⟨_, rfl, (cbs_length h0 h1 m hm hs hc).symm⟩⟩⟩
theorem inYS (n : Int) (m s : Nat) (i : Int) : V.inS (sy n m s) (YS (.int .i64 i)) = ⟨[.dat (.int .i32 n), .dat (.int .u8 m), .junk, .junk, .junk, .ptr 32 0 0, .dat (.int .i64 i)] ++ List.replicate 109 .junk, stY, 100⟩ := by
  simp only [YS, stY, V.inS, V.inUs_eq, V.inSt, V.inO, List.map_append, List.map_cons, List.map_nil, V.inU, V.inD, List.map_replicate]
  rfl
theorem inSJ (n : Int) (m s : Nat) (q : D) (l : D) (nx : Nat) : V.inS (sy n m s) (SJ (.sym 2) (.sym 60) (.int .i64 s) (.sym 61) q .junk (.dat l) [] nx) = SJ (.int .i64 n) (.int .u8 m) (.int .i64 s) (.lst (cb1 s n)) (V.inD (sy n m s) q) .junk (.dat (V.inD (sy n m s) l)) [] nx := by
  simp only [SJ, stY, obV, obW, mt, V.txt, V.inS, V.inUs_eq, V.inSt, V.inO, List.map_append, List.map_cons, List.map_nil, V.inU, V.inD, List.map_replicate]
  rfl
theorem whole (n : Int) (h0 : -2147483648 ≤ n) (h1 : n ≤ 2147483647) (m : Nat) (hm : m < 256) : ∃ s', V.Run Tryz.prog yL ⟨[.dat (.int .i32 n), .dat (.int .u8 m)] ++ List.replicate 114 .undef, [], 0⟩ .ret s' ∧ s'.tm[4]? = some (.dat (.bool true)) := by
  obtain ⟨hz0, hz1⟩ := zz_range n h0 h1
  obtain ⟨s, hs', hc⟩ := cls_of (zz n) hz0 hz1
  have hs : s ∈ szs := hs'
  have hP := plainSy n m s hm
  obtain ⟨g0, g1, g3, g4, g5, g9, g10, g11, ⟨g12, _⟩, gRR⟩ := regsY
  obtain ⟨p0, p1, p3, p4⟩ := runY0
  have p5 := runY5 (decide (n < 0)) s hs
  obtain ⟨p9, p10, p11, p12⟩ := runY9 s hs
  have hgY : @V.Good (V.sigOf (sy n m s)) Tryz.prog aY := goodY h0 h1 hm hs hc (c70Ok h0 h1)
  have hgS : @V.Good (V.sigOf (sy n m s)) Tryz.prog (aSz (decide (n < 0)) s) := goodY h0 h1 hm hs hc (szAll h0 h1 hs hc)
  have ex : ∀ {c : Code} {a b : V.St} {x : V.X}, V.Regs c → V.exec Tryz.prog aY 400 c a = some (x, b) → @V.Run V.sig0 Tryz.prog c (V.inS (sy n m s) a) x (V.inS (sy n m s) b) := fun hr h => V.Run.ins hP (@V.Run.of_exec (V.sigOf (sy n m s)) _ _ hgY regs follows _ _ _ _ _ hr h)
  have r4 := V.Run.ins hP (@V.Run.of_uptoD (V.sigOf (sy n m s)) _ _ hgY regs follows _ _ _ _ _ _ _ _ g4 p4)
  have r5 := V.Run.ins hP (@V.Run.of_uptoD (V.sigOf (sy n m s)) _ _ hgS regs follows _ _ _ _ _ _ _ _ g5 p5)
  have r9 := ex g9 p9
  have r12 := V.Run.ins hP (@V.Run.of_uptoD (V.sigOf (sy n m s)) _ _ hgY regs follows _ _ _ _ _ _ _ _ g12 p12)
  rw [inSJ] at r12
  have rL := inAll n m (.int .i64 s) (.lst (cb1 s n)) hm
  obtain ⟨b1, b2, hp, e1, e2⟩ : ∃ b1 b2, (b1, b2) ∈ clM ∧ b1 = decide (15 ≤ m) ∧ b2 = decide (128 ≤ m) := by
    refine ⟨_, _, ?_, rfl, rfl⟩
    by_cases a : 15 ≤ m
    · by_cases b : 128 ≤ m <;> simp [clM, a, b]
    · have b : ¬ 128 ≤ m := by omega
      simp [clM, a, b]
  obtain ⟨pR, tR⟩ := runYR (b1, b2) hp s hs
  have hgR : @V.Good (V.sigOf (sy n m s)) Tryz.prog (aR s b1 b2) := by
    have ht := tYOk h0 h1 hm hs hc
    exact @V.Good.mk (V.sigOf (sy n m s)) _ _ named (@V.spec_of_tbl (V.sigOf (sy n m s)) _ _ ht) (@V.orc_both (V.sigOf (sy n m s)) _ _ _ (fROk h0 h1 hm hs b1 b2 e1 e2) (gROk h0 h1 hm hs hc) _ rfl) (@V.call_none (V.sigOf (sy n m s)) _ _ rfl)
  have rR := V.Run.ins hP (@V.Run.of_exec (V.sigOf (sy n m s)) _ _ hgR regs follows _ _ _ _ _ gRR pR)
  rw [inSJ] at rR
  refine ⟨V.inS (sy n m s) (zYR s b1 b2), ?_, ?_⟩
  · rw [shapeY]
    exact V.Run.seq (ex g0 p0) (V.Run.seq (ex g1 p1) (V.Run.seq (ex g3 p3) (V.Run.seq r4 (V.Run.seq r5 (V.Run.seq r9 (V.Run.seq (ex g10 p10) (V.Run.seq (ex g11 p11) (V.Run.seq (V.Run.seq r12 rL) rR))))))))
  · show (V.inUs (sy n m s) (zYR s b1 b2).tm)[4]? = _
    rw [V.inUs_eq, List.getElem?_map, tR]
    rfl
theorem TcompSizes (W : World) (a0 : Int) (a1 : Int) (w0 : (Lit.int .i32 a0).wf = true) (w1 : (Lit.int .u8 a1).wf = true) : Calls Tryz.prog 4 #[.int .i32 a0, .int .u8 a1] W (fun e W' => e = .returned (.bool true) ∧ Below W.heap.size W W') := by
  have b0 := V.wf_int w0
  have b1 := V.wf_int w1
  simp only [IntKind.min, IntKind.max, IntKind.signed, IntKind.bits, Bool.false_eq_true, if_false, if_true] at b0 b1
  obtain ⟨m, rfl⟩ : ∃ m : Nat, a1 = m := ⟨a1.toNat, by omega⟩
  obtain ⟨s', r, ht⟩ := whole a0 (by omega) (by omega) m (by omega)
  have hr : Tryz.f4.results.toList = [.tmp 4] := by kernel_rfl
  refine V.law_of_run (us0 := [.dat (.int .i32 a0), .dat (.int .u8 m)]) Tryz.func4 bodyY r (.inr rfl) ?_ (V.args_cons (.int _ _) (V.args_cons (.int _ _) V.args_nil))
  rw [hr, List.mapM_cons]
  simp only [V.resU, ht]
  rfl
end Go.Proofs.YtjmfkfmcigdgbaaGreat.Say
