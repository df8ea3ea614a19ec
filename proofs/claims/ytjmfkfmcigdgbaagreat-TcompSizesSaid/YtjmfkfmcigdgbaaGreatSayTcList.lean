/- tcomp.Encode of a list of one number of 32 bits again and again. Mine. -/
import Derived.Test.YtjmfkfmcigdgbaaGreatSayTc
set_option linter.unusedVariables false
set_option linter.unusedSimpArgs false
namespace Go.Proofs.YtjmfkfmcigdgbaaGreat.Say
open Go Go.RowKit
open V (D)

def obZ (b : D) : V.Obj := ⟨61, 4, true, 0, false, [.dat .nil, .dat .nil, .dat .nil, .dat b]⟩
noncomputable def gA : Code := match Tryz.f64.body with
  | some c => c
  | none => .skip
noncomputable def gR0 : Code := cf (cf gA)
noncomputable def gR1 : Code := ct (cs (cf gA))
noncomputable def gE : Code := ce (cs (cf gA))
noncomputable def gR4 : Code := cf (cs gA)
noncomputable def gLp : Code := cb (cb (cs (cs gA)))
theorem bodyG : Tryz.f64.body = some gA := by kernel_rfl
theorem shapeG : gA = .seq (.seq gR0 (.cond (.tmp 10) gR1 gE)) (.seq gR4 (.block 0 (.loop gLp))) := by kernel_rfl
theorem regsG : (V.Regs gR0 ∧ V.Regs gR1 ∧ V.Regs gE) ∧ V.Regs gR4 ∧ V.Regs gLp := by
  have h := regs 64 Tryz.f64 gA Tryz.func64 bodyG
  rw [shapeG] at h
  exact h
def zw (n : Int) : Int := zz n
def sl2 (n : Int) (m i : Nat) (b : List D) : Nat → D
  | 11 => .lst b
  | 12 => .int .u64 m
  | 13 => .int .u64 (zz n)
  | 14 => .lst (b ++ zbs (zz n))
  | 16 => .int .i32 n
  | 17 => .int .u32 (zz n)
  | 20 => .int .i64 (IntKind.i64.wrap ((m : Int) * 2 ^ min (4 : Int).toNat IntKind.i64.bits))
  | 21 => .int .i64 (IntKind.i64.wrap (BitVec.ofInt IntKind.i64.bits (IntKind.i64.wrap ((m : Int) * 2 ^ min (4 : Int).toNat IntKind.i64.bits)) ||| BitVec.ofInt IntKind.i64.bits 5).toNat)
  | 22 => .int .u8 (IntKind.u8.wrap (IntKind.i64.wrap (BitVec.ofInt IntKind.i64.bits (IntKind.i64.wrap ((m : Int) * 2 ^ min (4 : Int).toNat IntKind.i64.bits)) ||| BitVec.ofInt IntKind.i64.bits 5).toNat))
  | j => sg 8 n m i j
theorem plainS2 (n : Int) (m i : Nat) {b : List D} (hb : V.noSyms b = true) : V.Plain (sl2 n m i b) := by
  constructor
  · intro j
    unfold sl2
    split <;> first | rfl | exact (plainSg 8 n m i).1 _
  · intro j
    unfold sl2
    split
    · exact hb
    · rfl
    · rfl
    · exact noSyms_app _ _ hb (zbs_no _)
    · rfl
    · rfl
    · rfl
    · rfl
    · rfl
    · exact (plainSg 8 n m i).2 _
/-! A value more. -/
def SG (l ln i b : D) : V.St := ⟨[.ptr 144 0 0, .dat (tx 8)] ++ List.replicate 29 .junk ++ [.dat l, .dat ln, .dat i] ++ List.replicate 8 .junk, [(144, obZ b)], 1000⟩
def kG : List Bool := [true, true] ++ List.replicate 29 false ++ [true, true, true]
def idsG : List Nat := [144]
def gI8 : List V.Gact := .ix 27 (.sym 4) (.sym 3) [.int .i64 8, .sym 2, mt, .nil, .nil] :: gL
def fG2 : List V.Fact := fIn ++ [.conv 2 21 (.sym 2) (.sym 16), .conv 107 94 (.sym 17) (.sym 13)]
def tG2 : V.Tbl := (107, [([.sym 11, .sym 13], [.sym 14])]) :: (62, [([.sym 16], [.sym 17])]) :: t3
def aG2 (f : List V.Fact) (g : List V.Gact) : V.An := { an3 with spec := V.inTbl tG2, orc := V.orcOr (V.orcOf f) (V.orcG g) }
set_option maxRecDepth 1000000 in
theorem runGin : V.uptoD Tryz.prog (aG2 fG2 gI8) 400 gLp (SG (.sym 4) (.sym 5) (.sym 3) (.sym 11)) idsG kG 1000 = some (.normal, SG (.sym 4) (.sym 5) (.sym 6) (.sym 14)) := by kernel_rfl
set_option maxRecDepth 1000000 in
theorem runGout : V.uptoD Tryz.prog (aG2 fOut gL) 400 gLp (SG (.sym 4) (.sym 5) (.sym 3) (.sym 11)) idsG kG 1000 = some (.exit 0, SG (.sym 4) (.sym 5) (.sym 3) (.sym 11)) := by kernel_rfl
def zG : V.St := ⟨[.ptr 144 0 0, .dat (tx 8), .dat (.sym 4)] ++ List.replicate 39 .undef, [(144, obZ .nil)], 568⟩
def fLess : List V.Fact := [.cmp .lss (.sym 5) (.int .i64 15) true, .ari .shl (.sym 5) (.int .u64 4) (.sym 20), .ari .or (.sym 20) (.int .i64 5) (.sym 21), .conv 3 5 (.sym 21) (.sym 22)]
def fMore : List V.Fact := [.cmp .lss (.sym 5) (.int .i64 15) false, .conv 3 94 (.sym 5) (.sym 12)]
def tMore : V.Tbl := (107, [([.lst [.int .u8 245], .sym 12], [.sym 11])]) :: t3
def aLess : V.An := { an3 with spec := V.inTbl t3, orc := V.orcOr (V.orcOf fLess) (V.orcG gL) }
def aMore : V.An := { an3 with spec := V.inTbl tMore, orc := V.orcOr (V.orcOf fMore) (V.orcG gL) }
noncomputable def zG0 (a : V.An) : V.St := nd (V.exec Tryz.prog a 400 gR0 zG)
def SH (b : D) : V.St := ⟨[.ptr 144 0 0, .dat (tx 8), .dat (.sym 4)] ++ List.replicate 39 .junk, [(144, obZ b)], 1000⟩
def kH : List Bool := [true, true, true]
set_option maxRecDepth 1000000 in
theorem runLess : V.exec Tryz.prog aLess 400 gR0 zG = some (.normal, zG0 aLess) ∧ V.evalU (zG0 aLess).tm (.tmp 10) = some (.dat (.bool true)) ∧ V.uptoD Tryz.prog aLess 400 gR1 (zG0 aLess) idsG kH 1000 = some (.normal, SH (.lst [.sym 22])) ∧ V.uptoD Tryz.prog aLess 400 gR4 (SH (.lst [.sym 22])) idsG kG 1000 = some (.normal, SG (.sym 4) (.sym 5) (.int .i64 0) (.lst [.sym 22])) :=
  ⟨by kernel_rfl, by kernel_rfl, by kernel_rfl, by kernel_rfl⟩
set_option maxRecDepth 1000000 in
theorem runMore : V.exec Tryz.prog aMore 400 gR0 zG = some (.normal, zG0 aMore) ∧ V.evalU (zG0 aMore).tm (.tmp 10) = some (.dat (.bool false)) ∧ V.uptoD Tryz.prog aMore 400 gE (zG0 aMore) idsG kH 1000 = some (.normal, SH (.sym 11)) ∧ V.uptoD Tryz.prog aMore 400 gR4 (SH (.sym 11)) idsG kG 1000 = some (.normal, SG (.sym 4) (.sym 5) (.int .i64 0) (.sym 11)) :=
  ⟨by kernel_rfl, by kernel_rfl, by kernel_rfl, by kernel_rfl⟩

/-! All of it. -/
section
variable {n : Int} {m i : Nat} {b : List D}
theorem gLOk2 : ∀ f ∈ gL, @V.Gact.ok (V.sigOf (sl2 n m i b)) Tryz.prog f := by
  letI : V.Sig := V.sigOf (sl2 n m i b)
  intro f hf
  simp only [gL, List.mem_cons, List.not_mem_nil, or_false] at hf
  subst hf
  refine ⟨m, rfl, .inl ⟨⟨_, Tryz.underlying27⟩, ?_⟩⟩
  cases m with
  | zero => exact .inl ⟨rfl, rfl⟩
  | succ m => exact .inr ⟨_, rfl, by simp⟩
theorem gI8Ok (hi : i < m) : ∀ f ∈ gI8, @V.Gact.ok (V.sigOf (sl2 n m i b)) Tryz.prog f := by
  letI : V.Sig := V.sigOf (sl2 n m i b)
  intro f hf
  simp only [gI8, List.mem_cons] at hf
  rcases hf with rfl | hf
  · obtain ⟨q, rfl⟩ : ∃ q, m = q + 1 := ⟨m - 1, by omega⟩
    refine ⟨.i64, i, List.replicate (q + 1) (vv 8 n), vv 8 n, 29, rfl, rfl, by omega, by simp [hi], Tryz.underlying27, sz29, by show 0 < 5; omega, rfl, ?_⟩
    intro j c y hc hy
    simp only [vv, V.D.cells] at hy
    match j with
    | 0 => simp at hc hy; subst hc; subst hy; exact .inl rfl
    | 1 => simp at hc hy; subst hc; subst hy; exact .inr ⟨2, rfl, rfl⟩
    | 2 => simp at hc hy; subst hc; subst hy; exact .inl rfl
    | 3 => simp at hc hy; subst hc; subst hy; exact .inl rfl
    | 4 => simp at hc hy; subst hc; subst hy; exact .inl rfl
    | j + 5 => simp at hc
  · exact gLOk2 f hf
theorem fOutOk2 : ∀ f ∈ fOut, @V.Fact.ok (V.sigOf (sl2 n m m b)) Tryz.prog f := by
  letI : V.Sig := V.sigOf (sl2 n m m b)
  intro f hf
  simp only [fOut, List.mem_cons, List.not_mem_nil, or_false] at hf
  subst hf
  exact V.okc (k := .i64) (m := m) (n := m) rfl rfl (V.c_lssF (by omega))
theorem fG2Ok (h0 : -2147483648 ≤ n) (h1 : n ≤ 2147483647) (hi : i < m) (hm : m < 1000) : ∀ f ∈ fG2, @V.Fact.ok (V.sigOf (sl2 n m i b)) Tryz.prog f := by
  letI : V.Sig := V.sigOf (sl2 n m i b)
  intro f hf
  simp only [fG2, fIn, List.cons_append, List.nil_append, List.mem_cons, List.not_mem_nil, or_false] at hf
  rcases hf with rfl | rfl | rfl | rfl
  · exact V.okc (k := .i64) (m := i) (n := m) rfl rfl (V.c_lssT (by omega))
  · exact V.oka (k := .i64) (m := i) (n := 1) (r := i + 1) rfl rfl (by simp only [V.ariI, V.wr_i64, Option.some.injEq]; omega) rfl
  · refine V.okv (k := .i64) (j := .i32) (n := n) Tryz.underlying2 rfl Tryz.underlying21 ?_
    have : IntKind.i32.wrap n = n := by rw [V.wr_i32]; omega
    rw [this]
    rfl
  · refine V.okv (k := .u32) (j := .u64) (n := zz n) Tryz.underlying107 rfl Tryz.underlying94 ?_
    have hz := zz_range n h0 h1
    have : IntKind.u64.wrap (zz n) = zz n := by rw [V.wr_u64]; omega
    rw [this]
    rfl
theorem tG2Ok (h0 : -2147483648 ≤ n) (h1 : n ≤ 2147483647) (h : Bts b) : @V.TblOk (V.sigOf (sl2 n m i b)) Tryz.prog tG2 := by
  have hz := zz_range n h0 h1
  have g1 : @V.Holds (V.sigOf (sl2 n m i b)) Tryz.prog 107 [.sym 11, .sym 13] [.sym 14] := V.Holds.outs (plainS2 n m i h.no) (zputHolds b (zz n) h.pos h.one h.len hz.1 (by omega))
  have g2 : @V.Holds (V.sigOf (sl2 n m i b)) Tryz.prog 62 [.sym 16] [.sym 17] := V.Holds.outs (plainS2 n m i h.no) (zigHolds n)
  exact @V.TblOk.cons (V.sigOf (sl2 n m i b)) _ _ _ _ (@V.RowOk.cons (V.sigOf (sl2 n m i b)) _ _ _ _ _ g1 (@V.RowOk.nil (V.sigOf (sl2 n m i b)) _ _)) (@V.TblOk.cons (V.sigOf (sl2 n m i b)) _ _ _ _ (@V.RowOk.cons (V.sigOf (sl2 n m i b)) _ _ _ _ _ g2 (@V.RowOk.nil (V.sigOf (sl2 n m i b)) _ _)) (@V.TblOk.any (V.sigOf (sl2 n m i b)) _ _ tno to3))
theorem goodG2 (h0 : -2147483648 ≤ n) (h1 : n ≤ 2147483647) (h : Bts b) {f : List V.Fact} {g : List V.Gact} (hf : ∀ x ∈ f, @V.Fact.ok (V.sigOf (sl2 n m i b)) Tryz.prog x) (hg : ∀ x ∈ g, @V.Gact.ok (V.sigOf (sl2 n m i b)) Tryz.prog x) : @V.Good (V.sigOf (sl2 n m i b)) Tryz.prog (aG2 f g) :=
  @V.Good.mk (V.sigOf (sl2 n m i b)) _ _ named (@V.spec_of_tbl (V.sigOf (sl2 n m i b)) _ _ (tG2Ok h0 h1 h)) (@V.orc_both (V.sigOf (sl2 n m i b)) _ _ _ hf hg _ rfl) (@V.call_none (V.sigOf (sl2 n m i b)) _ _ rfl)
end
theorem inSG (σ : Nat → D) (l ln i b : D) : V.inS σ (SG l ln i b) = SG (V.inD σ l) (V.inD σ ln) (V.inD σ i) (V.inD σ b) := by
  simp only [SG, V.inS, V.inUs_eq, List.map_append, List.map_cons, List.map_nil, V.inU, V.inD, V.inDs, List.map_replicate, V.inSt, V.inO, obZ, V.inD_no _ _ (noTx 8)]
theorem bts_more {b : List D} (h : Bts b) (u : Int) (hl : (b ++ zbs u).length ≤ 100000000000) : Bts (b ++ zbs u) :=
  ⟨by have := h.pos; rw [List.length_append]; omega, fun d hd => by
    rcases List.mem_append.1 hd with hd | hd
    · exact h.one d hd
    · exact zbs_one u d hd, noSyms_app _ _ h.no (zbs_no u), hl⟩
/-- so many values more -/
def gro (u : Int) : Nat → List D → List D
  | 0, b => b
  | q + 1, b => gro u q (b ++ zbs u)
theorem gro_length (u : Int) : ∀ (q : Nat) (b : List D), (gro u q b).length = b.length + q * (zbs u).length
  | 0, b => by simp [gro]
  | q + 1, b => by
    unfold gro
    rw [gro_length u q, List.length_append, Nat.succ_mul]
    omega
theorem gro_no (u : Int) : ∀ (q : Nat) (b : List D), V.noSyms b = true → V.noSyms (gro u q b) = true
  | 0, _, h => h
  | q + 1, b, h => gro_no u q _ (noSyms_app _ _ h (zbs_no u))
def HG (n : Int) (m i : Nat) (b : List D) : V.St := SG (rl 8 n m) (.int .i64 m) (.int .i64 i) (.lst b)
theorem loopG {n : Int} (h0 : -2147483648 ≤ n) (h1 : n ≤ 2147483647) (m : Nat) (hm : m < 1000) {s : Nat} (hs : s ∈ szs) (hc : inCls s (zz n)) : ∀ (q i : Nat) (b : List D), i + q = m → Bts b → b.length + 5 * q ≤ 100000000000 → @V.LRun V.sig0 Tryz.prog gLp (HG n m i b) (.exit 0) (HG n m m (gro (zz n) q b)) := by
  have hlen : (zbs (zz n)).length = s := zbs_length s (zz n) hs (zz_range n h0 h1).1 hc
  have hs5 : s ≤ 5 := by simp only [szs, List.mem_cons, List.not_mem_nil, or_false] at hs; omega
  intro q
  induction q with
  | zero =>
    intro i b hi hb _
    obtain rfl : i = m := by omega
    have r := V.Run.ins (plainS2 n i i hb.no) (@V.Run.of_uptoD (V.sigOf (sl2 n i i b)) _ _ (goodG2 h0 h1 hb fOutOk2 gLOk2) regs follows _ _ _ _ _ _ _ _ regsG.2.2 runGout)
    rw [inSG] at r
    exact V.LRun.out r (by simp)
  | succ q ih =>
    intro i b hi hb hl
    have r := V.Run.ins (plainS2 n m i hb.no) (@V.Run.of_uptoD (V.sigOf (sl2 n m i b)) _ _ (goodG2 h0 h1 hb (fG2Ok h0 h1 (by omega) hm) (gI8Ok (by omega))) regs follows _ _ _ _ _ _ _ _ regsG.2.2 runGin)
    rw [inSG, inSG] at r
    have r' : @V.Run V.sig0 Tryz.prog gLp (HG n m i b) .normal (HG n m (i + 1) (b ++ zbs (zz n))) := r
    exact V.LRun.step r' (ih (i + 1) _ (by omega) (bts_more hb _ (by rw [List.length_append]; omega)) (by rw [List.length_append]; omega))
/-- what stands ahead of the values -/
def hd (n : Int) (m : Nat) : List D := if m < 15 then [sl2 n m 0 [] 22] else [.int .u8 245] ++ zbs m
theorem hd_length (n : Int) (m : Nat) (hm : m < 256) : (hd n m).length = if m < 15 then 1 else if m < 128 then 2 else 3 := by
  unfold hd
  split
  · rfl
  · rw [List.length_append]
    split
    · rw [zbs_length 1 m (by simp) (by omega) (by simp [inCls, bot, top]; omega)]; rfl
    · rw [zbs_length 2 m (by simp) (by omega) (by simp [inCls, bot, top]; omega)]; rfl
theorem btsHd (n : Int) (m : Nat) (hm : m < 256) : Bts (hd n m) := by
  have hl := hd_length n m hm
  refine ⟨by rw [hl]; split <;> (try split) <;> omega, ?_, ?_, by rw [hl]; split <;> (try split) <;> omega⟩
  · unfold hd
    split
    · intro d h; simp at h; subst h; rfl
    · intro d h
      rcases List.mem_append.1 h with h | h
      · simp at h; subst h; rfl
      · exact zbs_one _ d h
  · unfold hd
    split
    · rfl
    · exact noSyms_app _ _ rfl (zbs_no _)
theorem inSH (σ : Nat → D) (b : D) : V.inS σ (SH b) = ⟨[.ptr 144 0 0, .dat (tx 8), .dat (σ 4)] ++ List.replicate 39 .junk, [(144, obZ (V.inD σ b))], 1000⟩ := by
  simp only [SH, V.inS, V.inUs_eq, List.map_append, List.map_cons, List.map_nil, V.inU, V.inD, V.inDs, List.map_replicate, V.inSt, V.inO, obZ, V.inD_no _ _ (noTx 8)]
theorem evIn {σ : Nat → D} {s : V.St} {j : Nat} {r : Bool} (h : V.evalU s.tm (.tmp j) = some (.dat (.bool r))) : V.evalU (V.inS σ s).tm (.tmp j) = some (.dat (.bool r)) := by
  have h' : s.tm[j]? = some (.dat (.bool r)) := h
  show (V.inUs σ s.tm)[j]? = _
  rw [V.inUs_eq, List.getElem?_map, h']
  rfl
theorem headRun (n : Int) (m : Nat) (hm : m < 256) : ∃ s1, @V.Run V.sig0 Tryz.prog (.seq gR0 (.cond (.tmp 10) gR1 gE)) ⟨[.ptr 144 0 0, .dat (tx 8), .dat (rl 8 n m)] ++ List.replicate 39 .undef, [(144, obZ .nil)], 568⟩ .normal s1 ∧ @V.Run V.sig0 Tryz.prog gR4 s1 .normal (HG n m 0 (hd n m)) := by
  have hm64 : IntKind.u64.wrap (m : Int) = m := by rw [V.wr_u64]; omega
  by_cases h : m < 15
  · obtain ⟨p0, c, p1, p4⟩ := runLess
    have hP := plainS2 n m 0 (b := []) rfl
    have hf : ∀ f ∈ fLess, @V.Fact.ok (V.sigOf (sl2 n m 0 [])) Tryz.prog f := by
      letI : V.Sig := V.sigOf (sl2 n m 0 [])
      intro f hf
      simp only [fLess, List.mem_cons, List.not_mem_nil, or_false] at hf
      rcases hf with rfl | rfl | rfl | rfl
      · exact V.okc (k := .i64) (m := m) (n := 15) rfl rfl (V.c_lssT (by omega))
      · exact V.okb (k := .i64) (m := m) (n := 4) rfl rfl (.inl rfl) rfl rfl
      · exact V.okb (k := .i64) (j := .i64) (n := 5) rfl rfl (.inr rfl) rfl rfl
      · exact V.okv (k := .i64) (j := .u8) Tryz.underlying3 rfl Tryz.underlying5 rfl
    have hT : @V.TblOk (V.sigOf (sl2 n m 0 [])) Tryz.prog t3 := V.TblOk.any tno to3
    have hg : @V.Good (V.sigOf (sl2 n m 0 [])) Tryz.prog aLess := @V.Good.mk (V.sigOf (sl2 n m 0 [])) _ _ named (@V.spec_of_tbl (V.sigOf (sl2 n m 0 [])) _ _ hT) (@V.orc_both (V.sigOf (sl2 n m 0 [])) _ _ _ hf gLOk2 _ rfl) (@V.call_none (V.sigOf (sl2 n m 0 [])) _ _ rfl)
    have r0 := V.Run.ins hP (@V.Run.of_exec (V.sigOf (sl2 n m 0 [])) _ _ hg regs follows _ _ _ _ _ regsG.1.1 p0)
    have r1 := V.Run.ins hP (@V.Run.of_uptoD (V.sigOf (sl2 n m 0 [])) _ _ hg regs follows _ _ _ _ _ _ _ _ regsG.1.2.1 p1)
    have r4 := V.Run.ins hP (@V.Run.of_uptoD (V.sigOf (sl2 n m 0 [])) _ _ hg regs follows _ _ _ _ _ _ _ _ regsG.2.1 p4)
    rw [inSG] at r4
    have e : hd n m = [sl2 n m 0 [] 22] := by rw [hd, if_pos h]
    refine ⟨_, V.Run.seq r0 (V.Run.cond_true (evIn c) r1), ?_⟩
    rw [e]
    exact r4
  · obtain ⟨p0, c, p1, p4⟩ := runMore
    have hput : @V.Holds V.sig0 Tryz.prog 107 [.lst [.int .u8 245], .int .u64 m] [.lst ([.int .u8 245] ++ zbs m)] := zputHolds [.int .u8 245] m (by simp) (fun d hd => by simp at hd; subst hd; rfl) (by simp) (by omega) (by omega)
    have hno : V.noSyms ([.int .u8 245] ++ zbs m) = true := noSyms_app _ _ rfl (zbs_no _)
    have e : hd n m = [.int .u8 245] ++ zbs m := by rw [hd, if_neg h]
    rw [e]
    generalize ([.int .u8 245] ++ zbs m : List D) = b at hput hno
    clear e
    have hP := plainS2 n m 0 (b := b) hno
    have hf : ∀ f ∈ fMore, @V.Fact.ok (V.sigOf (sl2 n m 0 b)) Tryz.prog f := by
      letI : V.Sig := V.sigOf (sl2 n m 0 b)
      intro f hf
      simp only [fMore, List.mem_cons, List.not_mem_nil, or_false] at hf
      rcases hf with rfl | rfl
      · exact V.okc (k := .i64) (m := m) (n := 15) rfl rfl (V.c_lssF (by omega))
      · refine V.okv (k := .i64) (j := .u64) (n := m) Tryz.underlying3 rfl Tryz.underlying94 ?_
        rw [hm64]
        rfl
    have g1 : @V.Holds (V.sigOf (sl2 n m 0 b)) Tryz.prog 107 [.lst [.int .u8 245], .sym 12] [.sym 11] := V.Holds.outs hP hput
    have ht : @V.TblOk (V.sigOf (sl2 n m 0 b)) Tryz.prog tMore := @V.TblOk.cons (V.sigOf (sl2 n m 0 b)) _ _ _ _ (@V.RowOk.cons (V.sigOf (sl2 n m 0 b)) _ _ _ _ _ g1 (@V.RowOk.nil (V.sigOf (sl2 n m 0 b)) _ _)) (@V.TblOk.any (V.sigOf (sl2 n m 0 b)) _ _ tno to3)
    have hg : @V.Good (V.sigOf (sl2 n m 0 b)) Tryz.prog aMore := @V.Good.mk (V.sigOf (sl2 n m 0 b)) _ _ named (@V.spec_of_tbl (V.sigOf (sl2 n m 0 b)) _ _ ht) (@V.orc_both (V.sigOf (sl2 n m 0 b)) _ _ _ hf gLOk2 _ rfl) (@V.call_none (V.sigOf (sl2 n m 0 b)) _ _ rfl)
    have r0 := V.Run.ins hP (@V.Run.of_exec (V.sigOf (sl2 n m 0 b)) _ _ hg regs follows _ _ _ _ _ regsG.1.1 p0)
    have r1 := V.Run.ins hP (@V.Run.of_uptoD (V.sigOf (sl2 n m 0 b)) _ _ hg regs follows _ _ _ _ _ _ _ _ regsG.1.2.2 p1)
    have r4 := V.Run.ins hP (@V.Run.of_uptoD (V.sigOf (sl2 n m 0 b)) _ _ hg regs follows _ _ _ _ _ _ _ _ regsG.2.1 p4)
    rw [inSG] at r4
    exact ⟨_, V.Run.seq r0 (V.Run.cond_false (evIn c) r1), r4⟩
/-- the bytes of a list -/
def cbs (n : Int) (m : Nat) : List D := gro (zz n) m (hd n m)
theorem cbs_length {n : Int} (h0 : -2147483648 ≤ n) (h1 : n ≤ 2147483647) (m : Nat) (hm : m < 256) {s : Nat} (hs : s ∈ szs) (hc : inCls s (zz n)) : (cbs n m).length = (if m < 15 then 1 else if m < 128 then 2 else 3) + m * s := by
  rw [cbs, gro_length, hd_length n m hm, zbs_length s (zz n) hs (zz_range n h0 h1).1 hc]
theorem listHolds {n : Int} (h0 : -2147483648 ≤ n) (h1 : n ≤ 2147483647) (m : Nat) (hm : m < 256) {s : Nat} (hs : s ∈ szs) (hc : inCls s (zz n)) : @V.CallHolds V.sig0 Tryz.prog 64 [.ptr 144 0 0, .dat (tx 8), .dat (rl 8 n m)] [(144, obZ .nil)] 568 (V.resL []) [(144, obZ (.lst (cbs n m)))] := by
  obtain ⟨s1, r0, r4⟩ := headRun n m hm
  have hl := hd_length n m hm
  have hL := loopG h0 h1 m (by omega) hs hc m 0 (hd n m) (by omega) (btsHd n m hm) (by rw [hl]; split <;> (try split) <;> omega)
  have rAll : @V.Run V.sig0 Tryz.prog gA ⟨[.ptr 144 0 0, .dat (tx 8), .dat (rl 8 n m)] ++ List.replicate 39 .undef, [(144, obZ .nil)], 568⟩ .normal (HG n m m (cbs n m)) := by
    rw [shapeG]
    exact V.Run.seq r0 (V.Run.seq r4 (V.Run.block_to (V.Run.loop hL)))
  exact @V.CallHolds.of_run V.sig0 _ _ _ _ Tryz.func64 bodyG _ _ _ _ _ rAll (.inl rfl) [] rfl

/-! Encode. -/
def se2 (n : Int) (m L : Nat) : Nat → D
  | 4 => rl 8 n m
  | 11 => .lst (cbs n m)
  | 12 => .int .i64 L
  | _ => .nil
theorem plainSe2 (n : Int) (m L : Nat) (hm : m < 256) : V.Plain (se2 n m L) := by
  constructor
  · intro j
    unfold se2
    split <;> first | rfl | exact oneRl _ _ _
  · intro j
    unfold se2
    split
    · exact noRl _ _ _
    · exact gro_no _ _ _ (btsHd n m hm).no
    · rfl
    · rfl
def tM : V.Tbl := (15, [([sch, lt 8, wn], [.bool true])]) :: (52, [([wn], [.int .i64 1])]) :: t3
def cM : List V.CEnt := [⟨64, [.ptr 144 0 0, .dat (tx 8), .dat (.sym 4)], [(144, obZ .nil)], 568, V.resL [], [(144, obZ (.sym 11))], 1000⟩]
def gM : List V.Gact := [.len 30 (.sym 11) (.sym 12)]
def fM : List V.Fact := [.cmp .gtr (.sym 12) (.int .i64 5000) false]
def aM : V.An := { an3 with spec := V.inTbl tM, orc := V.orcOr (V.orcOf fM) (V.orcG gM), call := V.inCalls cM }
set_option maxRecDepth 1000000 in
theorem runM : V.tells Tryz.prog aM 400 9 [sch, lt 8, wn, lim] [.sym 11, .int .i64 0] = true := by kernel_rfl
theorem encList {n : Int} (h0 : -2147483648 ≤ n) (h1 : n ≤ 2147483647) (m : Nat) (hm : m < 256) {s : Nat} (hs : s ∈ szs) (hc : inCls s (zz n)) : @V.Holds V.sig0 Tryz.prog 9 [sch, lt 8, wl 8 n m, lim] [.lst (cbs n m), .int .i64 0] := by
  obtain ⟨hw, hfit⟩ := i32fits n h0 h1
  have hlen := cbs_length h0 h1 m hm hs hc
  have hs5 : s ≤ 5 := by simp only [szs, List.mem_cons, List.not_mem_nil, or_false] at hs; omega
  have hms : m * s ≤ 255 * 5 := Nat.mul_le_mul (by omega) hs5
  have hP := plainSe2 n m (cbs n m).length hm
  have hf : ∀ f ∈ fM, @V.Fact.ok (V.sigOf (se2 n m (cbs n m).length)) Tryz.prog f := by
    letI : V.Sig := V.sigOf (se2 n m (cbs n m).length)
    intro f hf
    simp only [fM, List.mem_cons, List.not_mem_nil, or_false] at hf
    subst hf
    refine V.okc (k := .i64) (m := (cbs n m).length) (n := 5000) rfl rfl (V.c_gtrF ?_)
    rw [hlen]
    split <;> (try split) <;> omega
  have hg : ∀ f ∈ gM, @V.Gact.ok (V.sigOf (se2 n m (cbs n m).length)) Tryz.prog f := by
    letI : V.Sig := V.sigOf (se2 n m (cbs n m).length)
    intro f hf
    simp only [gM, List.mem_cons, List.not_mem_nil, or_false] at hf
    subst hf
    exact ⟨(cbs n m).length, rfl, .inl ⟨⟨_, Tryz.underlying30⟩, .inr ⟨_, rfl, rfl⟩⟩⟩
  have e1 : V.inDs (se2 n m (cbs n m).length) [sch, lt 8, wn] = [sch, lt 8, wl 8 n m] := by rfl
  have e2 : V.inDs (se2 n m (cbs n m).length) [wn] = [wl 8 n m] := by rfl
  have g1 : @V.Holds (V.sigOf (se2 n m (cbs n m).length)) Tryz.prog 15 [sch, lt 8, wn] [.bool true] := V.Holds.outs hP (by rw [e1]; exact checkList (by decide) (check0 (by decide) hw hfit) m (by omega))
  have g2 : @V.Holds (V.sigOf (se2 n m (cbs n m).length)) Tryz.prog 52 [wn] [.int .i64 1] := V.Holds.outs hP (by rw [e2]; exact depthHolds (by decide) n m (by omega))
  have ht : @V.TblOk (V.sigOf (se2 n m (cbs n m).length)) Tryz.prog tM := @V.TblOk.cons (V.sigOf (se2 n m (cbs n m).length)) _ _ _ _ (@V.RowOk.cons (V.sigOf (se2 n m (cbs n m).length)) _ _ _ _ _ g1 (@V.RowOk.nil (V.sigOf (se2 n m (cbs n m).length)) _ _)) (@V.TblOk.cons (V.sigOf (se2 n m (cbs n m).length)) _ _ _ _ (@V.RowOk.cons (V.sigOf (se2 n m (cbs n m).length)) _ _ _ _ _ g2 (@V.RowOk.nil (V.sigOf (se2 n m (cbs n m).length)) _ _)) (@V.TblOk.any (V.sigOf (se2 n m (cbs n m).length)) _ _ tno to3))
  have hC : @V.CallsOk (V.sigOf (se2 n m (cbs n m).length)) Tryz.prog cM := by
    intro e he
    simp only [cM, List.mem_cons, List.not_mem_nil, or_false] at he
    subst he
    exact V.CallHolds.outs hP (listHolds h0 h1 m hm hs hc)
  have hG : @V.Good (V.sigOf (se2 n m (cbs n m).length)) Tryz.prog aM := @V.Good.mk (V.sigOf (se2 n m (cbs n m).length)) _ _ named (@V.spec_of_tbl (V.sigOf (se2 n m (cbs n m).length)) _ _ ht) (@V.orc_both (V.sigOf (se2 n m (cbs n m).length)) _ _ _ hf hg _ rfl) (@V.call_of_list (V.sigOf (se2 n m (cbs n m).length)) _ _ hC _ rfl)
  have r := V.Holds.ins hP (@V.holds_of_tells (V.sigOf (se2 n m (cbs n m).length)) _ _ hG regs follows _ _ _ _ runM)
  have e3 : V.inDs (se2 n m (cbs n m).length) [sch, lt 8, wn, lim] = [sch, lt 8, wl 8 n m, lim] := by rfl
  rw [e3] at r
  exact r
end Go.Proofs.YtjmfkfmcigdgbaaGreat.Say
