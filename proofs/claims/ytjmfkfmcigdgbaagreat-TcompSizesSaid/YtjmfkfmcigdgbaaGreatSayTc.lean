/- tcomp.Encode of a number of 32 bits, and of a list of it again and again. Mine. -/
import Derived.Test.YtjmfkfmcigdgbaaGreatSayZig
set_option linter.unusedVariables false
set_option linter.unusedSimpArgs false
namespace Go.Proofs.YtjmfkfmcigdgbaaGreat.Say
open Go Go.RowKit
open V (D)

/-! zig.Zig32. -/
def z1 (n : Int) : Int := IntKind.u32.wrap n
def z2 (n : Int) : Int := IntKind.u32.wrap (z1 n * 2 ^ min (1 : Int).toNat IntKind.u32.bits)
def z3 (n : Int) : Int := n.fdiv (2 ^ min (31 : Int).toNat IntKind.i32.bits)
def z4 (n : Int) : Int := IntKind.u32.wrap (z3 n)
def zz (n : Int) : Int := IntKind.u32.wrap (BitVec.ofInt IntKind.u32.bits (z2 n) ^^^ BitVec.ofInt IntKind.u32.bits (z4 n)).toNat
def szg (n : Int) : Nat → D
  | 0 => .int .i32 n
  | 1 => .int .u32 (z1 n)
  | 2 => .int .u32 (z2 n)
  | 3 => .int .i32 (z3 n)
  | 4 => .int .u32 (z4 n)
  | 5 => .int .u32 (zz n)
  | _ => .nil
theorem plainZg (n : Int) : V.Plain (szg n) := by
  constructor
  · intro j
    unfold szg
    split <;> rfl
  · intro j
    unfold szg
    split <;> rfl
def fZg : List V.Fact := [.conv 21 107 (.sym 0) (.sym 1), .ari .shl (.sym 1) (.int .u64 1) (.sym 2), .ari .shr (.sym 0) (.int .u64 31) (.sym 3), .conv 21 107 (.sym 3) (.sym 4), .ari .xor (.sym 2) (.sym 4) (.sym 5)]
def aZg : V.An := { an3 with orc := V.orcOf fZg }
set_option maxRecDepth 1000000 in
theorem runZg : V.tells Tryz.prog aZg 400 62 [.sym 0] [.sym 5] = true := by kernel_rfl
theorem zigHolds (n : Int) : @V.Holds V.sig0 Tryz.prog 62 [.int .i32 n] [.int .u32 (zz n)] := by
  have hf : ∀ f ∈ fZg, @V.Fact.ok (V.sigOf (szg n)) Tryz.prog f := by
    letI : V.Sig := V.sigOf (szg n)
    intro f hf
    simp only [fZg, List.mem_cons, List.not_mem_nil, or_false] at hf
    rcases hf with rfl | rfl | rfl | rfl | rfl
    · exact V.okv (k := .i32) (j := .u32) (n := n) Tryz.underlying21 rfl Tryz.underlying107 rfl
    · exact V.okb (k := .u32) (m := z1 n) (n := 1) (r := z2 n) rfl rfl (.inl rfl) rfl rfl
    · exact V.okb (k := .i32) (m := n) (n := 31) (r := z3 n) rfl rfl (.inl rfl) rfl rfl
    · exact V.okv (k := .i32) (j := .u32) (n := z3 n) Tryz.underlying21 rfl Tryz.underlying107 rfl
    · exact V.okb (k := .u32) (j := .u32) (m := z2 n) (n := z4 n) (r := zz n) rfl rfl (.inr rfl) rfl rfl
  have hg : @V.Good (V.sigOf (szg n)) Tryz.prog aZg := @V.Good.mk (V.sigOf (szg n)) _ _ named (@V.spec_of_tbl (V.sigOf (szg n)) _ _ (V.TblOk.any tno to3)) (@V.orc_of (V.sigOf (szg n)) _ _ hf _ rfl) (@V.call_none (V.sigOf (szg n)) _ _ rfl)
  exact V.Holds.ins (plainZg n) (@V.holds_of_tells (V.sigOf (szg n)) _ _ hg regs follows _ _ _ _ runZg)
theorem u32_of (m : Int) (h0 : 0 ≤ m) (h1 : m < 4294967296) : IntKind.u32.wrap m = m := by simp only [IntKind.wrap, IntKind.bits, IntKind.signed]; simp; omega
theorem bv_of (m : Int) (h0 : 0 ≤ m) (h1 : m < 4294967296) : (BitVec.ofInt 32 m).toNat = m.toNat := by
  rw [BitVec.toNat_ofInt]
  have : m % ((2 ^ 32 : Nat) : Int) = m := Int.emod_eq_of_lt h0 (by simpa using h1)
  rw [this]
theorem zz_eq (n : Int) (h0 : -2147483648 ≤ n) (h1 : n ≤ 2147483647) : zz n = if 0 ≤ n then 2 * n else -2 * n - 1 := by
  have e1 : (2 : Int) ^ min (1 : Int).toNat IntKind.u32.bits = 2 := by decide
  have e31 : (2 : Int) ^ min (31 : Int).toNat IntKind.i32.bits = 2147483648 := by decide +kernel
  have hw : ∀ m : Int, IntKind.u32.wrap m = m % 4294967296 := fun m => by simp [IntKind.wrap, IntKind.bits, IntKind.signed]
  have hz1 : z1 n = n % 4294967296 := hw n
  have hz2 : z2 n = (z1 n * 2) % 4294967296 := by unfold z2; rw [e1, hw]
  have hz3 : z3 n = n.fdiv 2147483648 := by unfold z3; rw [e31]
  have hb2 : (BitVec.ofInt 32 (z2 n)).toNat = (z2 n).toNat := bv_of _ (by omega) (by omega)
  unfold zz
  show IntKind.u32.wrap (BitVec.ofInt 32 (z2 n) ^^^ BitVec.ofInt 32 (z4 n)).toNat = _
  by_cases h : 0 ≤ n
  · have h3 : z3 n = 0 := by rw [hz3, Int.fdiv_eq_ediv_of_nonneg _ (by decide)]; omega
    have h4 : z4 n = 0 := by unfold z4; rw [h3, hw]; rfl
    rw [if_pos h, h4]
    have e0 : BitVec.ofInt 32 0 = 0#32 := by decide
    rw [e0, BitVec.xor_zero, hb2, hw]
    omega
  · have h3 : z3 n = -1 := by rw [hz3, Int.fdiv_eq_ediv_of_nonneg _ (by decide)]; omega
    have h4 : z4 n = 4294967295 := by unfold z4; rw [h3, hw]; decide
    rw [if_neg h, h4]
    have e0 : BitVec.ofInt 32 4294967295 = BitVec.allOnes 32 := by decide
    rw [e0, BitVec.xor_allOnes, BitVec.toNat_not, hb2, hw]
    have : (2 : Nat) ^ 32 = 4294967296 := by decide
    rw [this]
    omega

/-! How many bytes. -/
/-- the greatest of so many groups -/
def top (s : Nat) : Int := if s = 1 then 127 else if s = 2 then 16383 else if s = 3 then 2097151 else if s = 4 then 268435455 else 4294967295
def bot (s : Nat) : Int := if s = 1 then 0 else top (s - 1) + 1
/-- it has so many bytes -/
def inCls (s : Nat) (u : Int) : Prop := bot s ≤ u ∧ u ≤ top s
theorem cls_of (u : Int) (h0 : 0 ≤ u) (h1 : u < 4294967296) : ∃ s, s ∈ [1, 2, 3, 4, 5] ∧ inCls s u := by
  by_cases a : u ≤ 127
  · exact ⟨1, by simp, by simp [inCls, bot, top]; omega⟩
  by_cases b : u ≤ 16383
  · exact ⟨2, by simp, by simp [inCls, bot, top]; omega⟩
  by_cases c : u ≤ 2097151
  · exact ⟨3, by simp, by simp [inCls, bot, top]; omega⟩
  by_cases d : u ≤ 268435455
  · exact ⟨4, by simp, by simp [inCls, bot, top]; omega⟩
  · exact ⟨5, by simp, by simp [inCls, bot, top]; omega⟩
def shK (u : Int) : Nat → Int
  | 0 => u
  | j + 1 => sh7 (shK u j)
theorem shK_eq (u : Int) (h0 : 0 ≤ u) : shK u 1 = u / 128 ∧ shK u 2 = u / 128 / 128 ∧ shK u 3 = u / 128 / 128 / 128 ∧ shK u 4 = u / 128 / 128 / 128 / 128 := by
  have h : ∀ m : Int, sh7 m = m / 128 := fun m => by rw [sh7_eq]; exact Int.fdiv_eq_ediv_of_nonneg m (by decide)
  simp only [shK, h]
  exact ⟨trivial, trivial, trivial, trivial⟩
theorem zbs_length (s : Nat) (u : Int) (hs : s ∈ [1, 2, 3, 4, 5]) (h0 : 0 ≤ u) (h : inCls s u) : (zbs u).length = s := by
  obtain ⟨k1, k2, k3, k4⟩ := shK_eq u h0
  simp only [shK] at k1 k2 k3 k4
  simp only [zbs, List.length_append, List.length_cons, List.length_nil]
  simp only [List.mem_cons, List.not_mem_nil, or_false] at hs
  obtain ⟨ha, hb⟩ := h
  rcases hs with rfl | rfl | rfl | rfl | rfl
  · simp [bot, top] at ha hb
    have g0 : ¬ u > 127 := by omega
    rw [zgr, if_neg g0]; rfl
  · simp [bot, top] at ha hb
    have g0 : u > 127 := by omega
    have g1 : ¬ sh7 u > 127 := by rw [k1]; omega
    rw [zgr, if_pos g0, zgr, if_neg g1]; rfl
  · simp [bot, top] at ha hb
    have g0 : u > 127 := by omega
    have g1 : sh7 u > 127 := by rw [k1]; omega
    have g2 : ¬ sh7 (sh7 u) > 127 := by rw [k2]; omega
    rw [zgr, if_pos g0, zgr, if_pos g1, zgr, if_neg g2]; rfl
  · simp [bot, top] at ha hb
    have g0 : u > 127 := by omega
    have g1 : sh7 u > 127 := by rw [k1]; omega
    have g2 : sh7 (sh7 u) > 127 := by rw [k2]; omega
    have g3 : ¬ sh7 (sh7 (sh7 u)) > 127 := by rw [k3]; omega
    rw [zgr, if_pos g0, zgr, if_pos g1, zgr, if_pos g2, zgr, if_neg g3]; rfl
  · simp [bot, top] at ha hb
    have g0 : u > 127 := by omega
    have g1 : sh7 u > 127 := by rw [k1]; omega
    have g2 : sh7 (sh7 u) > 127 := by rw [k2]; omega
    have g3 : sh7 (sh7 (sh7 u)) > 127 := by rw [k3]; omega
    have g4 : ¬ sh7 (sh7 (sh7 (sh7 u))) > 127 := by rw [k4]; omega
    rw [zgr, if_pos g0, zgr, if_pos g1, zgr, if_pos g2, zgr, if_pos g3, zgr, if_neg g4]; rfl
theorem zbs_one (u : Int) : ∀ d ∈ zbs u, d.one = true := by
  intro d hd
  rcases List.mem_append.1 hd with hd | hd
  · exact zgr_one _ _ d hd
  · simp at hd; subst hd; rfl
theorem zbs_no (u : Int) : V.noSyms (zbs u) = true := noSyms_app _ _ (zgr_no _ _) rfl

/-! Encode of a number by itself. 2: the number; 30: of 32 bits; 31: zigzag; 40 on: seven bits less each; 50 on: the lowest eight; 60 on: with the sign that more follows -/
def sn (n : Int) : Nat → D
  | 2 => .int .i64 n
  | 30 => .int .i32 n
  | 31 => .int .u32 (zz n)
  | 40 => .int .u64 (shK (zz n) 0)
  | 41 => .int .u64 (shK (zz n) 1)
  | 42 => .int .u64 (shK (zz n) 2)
  | 43 => .int .u64 (shK (zz n) 3)
  | 44 => .int .u64 (shK (zz n) 4)
  | 50 => lo8 (shK (zz n) 0)
  | 51 => lo8 (shK (zz n) 1)
  | 52 => lo8 (shK (zz n) 2)
  | 53 => lo8 (shK (zz n) 3)
  | 54 => lo8 (shK (zz n) 4)
  | 60 => .int .u8 (hi7 (shK (zz n) 0))
  | 61 => .int .u8 (hi7 (shK (zz n) 1))
  | 62 => .int .u8 (hi7 (shK (zz n) 2))
  | 63 => .int .u8 (hi7 (shK (zz n) 3))
  | _ => .nil
theorem plainSn (n : Int) : V.Plain (sn n) := by
  constructor
  · intro j
    unfold sn
    split <;> rfl
  · intro j
    unfold sn
    split <;> rfl
def fLp (j : Nat) (b : Bool) : List V.Fact := [.cmp .gtr (.sym (40 + j)) (.int .u64 127) b, .conv 94 5 (.sym (40 + j)) (.sym (50 + j)), .ari .or (.sym (50 + j)) (.int .u8 128) (.sym (60 + j)), .ari .shr (.sym (40 + j)) (.int .u64 7) (.sym (41 + j))]
def fEnd (j : Nat) : List V.Fact := [.cmp .gtr (.sym (40 + j)) (.int .u64 127) false, .conv 94 5 (.sym (40 + j)) (.sym (50 + j))]
def fHd : List V.Fact := [.conv 2 21 (.sym 2) (.sym 30), .conv 107 94 (.sym 31) (.sym 40)]
def fCl : Nat → List V.Fact
  | 1 => fHd ++ fEnd 0
  | 2 => fHd ++ fLp 0 true ++ fEnd 1
  | 3 => fHd ++ fLp 0 true ++ fLp 1 true ++ fEnd 2
  | 4 => fHd ++ fLp 0 true ++ fLp 1 true ++ fLp 2 true ++ fEnd 3
  | _ => fHd ++ fLp 0 true ++ fLp 1 true ++ fLp 2 true ++ fLp 3 true ++ fEnd 4
def bCl : Nat → List D
  | 1 => [.sym 50]
  | 2 => [.sym 60, .sym 51]
  | 3 => [.sym 60, .sym 61, .sym 52]
  | 4 => [.sym 60, .sym 61, .sym 62, .sym 53]
  | _ => [.sym 60, .sym 61, .sym 62, .sym 63, .sym 54]
def tCl : V.Tbl := (15, [([sch, tx 8, nv 8], [.bool true])]) :: (62, [([.sym 30], [.sym 31])]) :: t3
def aCl (s : Nat) : V.An := { an3 with spec := V.inTbl tCl, orc := V.orcOf (fCl s) }
def szs : List Nat := [1, 2, 3, 4, 5]
set_option maxRecDepth 1000000 in
theorem runCl : ∀ s ∈ szs, V.tells Tryz.prog (aCl s) 400 9 [sch, tx 8, nv 8, lim] [.lst (bCl s), .int .i64 0] = true := by
  intro s hs
  simp only [szs, List.mem_cons, List.not_mem_nil, or_false] at hs
  rcases hs with rfl | rfl | rfl | rfl | rfl
  all_goals kernel_rfl
theorem fHdOk {n : Int} (h0 : -2147483648 ≤ n) (h1 : n ≤ 2147483647) : ∀ f ∈ fHd, @V.Fact.ok (V.sigOf (sn n)) Tryz.prog f := by
  letI : V.Sig := V.sigOf (sn n)
  intro f hf
  simp only [fHd, List.mem_cons, List.not_mem_nil, or_false] at hf
  rcases hf with rfl | rfl
  · refine V.okv (k := .i64) (j := .i32) (n := n) Tryz.underlying2 rfl Tryz.underlying21 ?_
    have : IntKind.i32.wrap n = n := by rw [V.wr_i32]; omega
    rw [this]
    rfl
  · refine V.okv (k := .u32) (j := .u64) (n := zz n) Tryz.underlying107 rfl Tryz.underlying94 ?_
    have hz := zz_eq n h0 h1
    have : IntKind.u64.wrap (zz n) = zz n := by rw [V.wr_u64, hz]; split <;> omega
    rw [this]
    rfl
theorem fLpOk {n : Int} {j : Nat} (hj : j < 4) (h : shK (zz n) j > 127) : ∀ f ∈ fLp j true, @V.Fact.ok (V.sigOf (sn n)) Tryz.prog f := by
  letI : V.Sig := V.sigOf (sn n)
  intro f hf
  simp only [fLp, List.mem_cons, List.not_mem_nil, or_false] at hf
  match j, hj with
  | 0, _ | 1, _ | 2, _ | 3, _ =>
    rcases hf with rfl | rfl | rfl | rfl
    · exact V.okc (k := .u64) (n := 127) rfl rfl (V.c_gtrT h)
    · exact V.okv (k := .u64) (j := .u8) Tryz.underlying94 rfl Tryz.underlying5 rfl
    · exact V.okb (k := .u8) (j := .u8) (n := 128) rfl rfl (.inr rfl) rfl rfl
    · exact V.okb (k := .u64) (j := .u64) (n := 7) rfl rfl (.inl rfl) rfl rfl
theorem fEndOk {n : Int} {j : Nat} (hj : j < 5) (h : shK (zz n) j ≤ 127) : ∀ f ∈ fEnd j, @V.Fact.ok (V.sigOf (sn n)) Tryz.prog f := by
  letI : V.Sig := V.sigOf (sn n)
  intro f hf
  simp only [fEnd, List.mem_cons, List.not_mem_nil, or_false] at hf
  match j, hj with
  | 0, _ | 1, _ | 2, _ | 3, _ | 4, _ =>
    rcases hf with rfl | rfl
    · exact V.okc (k := .u64) (n := 127) rfl rfl (V.c_gtrF h)
    · exact V.okv (k := .u64) (j := .u8) Tryz.underlying94 rfl Tryz.underlying5 rfl
theorem app_all {α : Type} {p : α → Prop} {a b : List α} (h1 : ∀ x ∈ a, p x) (h2 : ∀ x ∈ b, p x) : ∀ x ∈ a ++ b, p x := by
  intro x hx
  rcases List.mem_append.1 hx with hx | hx
  · exact h1 x hx
  · exact h2 x hx
theorem zz_range (n : Int) (h0 : -2147483648 ≤ n) (h1 : n ≤ 2147483647) : 0 ≤ zz n ∧ zz n < 4294967296 := by
  rw [zz_eq n h0 h1]
  split <;> omega
theorem fClOk {n : Int} (h0 : -2147483648 ≤ n) (h1 : n ≤ 2147483647) {s : Nat} (hs : s ∈ szs) (hc : inCls s (zz n)) : ∀ f ∈ fCl s, @V.Fact.ok (V.sigOf (sn n)) Tryz.prog f := by
  have hh := fHdOk h0 h1
  obtain ⟨hz, _⟩ := zz_range n h0 h1
  obtain ⟨k1, k2, k3, k4⟩ := shK_eq (zz n) hz
  have k0 : shK (zz n) 0 = zz n := rfl
  simp only [szs, List.mem_cons, List.not_mem_nil, or_false] at hs
  obtain ⟨ha, hb⟩ := hc
  rcases hs with rfl | rfl | rfl | rfl | rfl
  · simp [bot, top] at ha hb
    exact app_all hh (fEndOk (by decide) (by omega))
  · simp [bot, top] at ha hb
    exact app_all (app_all hh (fLpOk (by decide) (by omega))) (fEndOk (by decide) (by omega))
  · simp [bot, top] at ha hb
    exact app_all (app_all (app_all hh (fLpOk (by decide) (by omega))) (fLpOk (by decide) (by omega))) (fEndOk (by decide) (by omega))
  · simp [bot, top] at ha hb
    exact app_all (app_all (app_all (app_all hh (fLpOk (by decide) (by omega))) (fLpOk (by decide) (by omega))) (fLpOk (by decide) (by omega))) (fEndOk (by decide) (by omega))
  · simp [bot, top] at ha hb
    exact app_all (app_all (app_all (app_all (app_all hh (fLpOk (by decide) (by omega))) (fLpOk (by decide) (by omega))) (fLpOk (by decide) (by omega))) (fLpOk (by decide) (by omega))) (fEndOk (by decide) (by omega))
theorem i32fits (n : Int) (h0 : -2147483648 ≤ n) (h1 : n ≤ 2147483647) : IntKind.i64.wrap n = n ∧ fits 8 n = true := by
  refine ⟨by rw [V.wr_i64]; omega, ?_⟩
  have : IntKind.i32.wrap n = n := by rw [V.wr_i32]; omega
  simp [fits, wideOf, this]
/-- its bytes -/
def cb1 (s : Nat) (n : Int) : List D := V.inDs (sn n) (bCl s)
theorem cb1_length (s : Nat) (n : Int) (hs : s ∈ szs) : (cb1 s n).length = s := by
  simp only [szs, List.mem_cons, List.not_mem_nil, or_false] at hs
  rcases hs with rfl | rfl | rfl | rfl | rfl <;> rfl
theorem cb1_no (s : Nat) (n : Int) : V.noSyms (cb1 s n) = true := by unfold cb1 bCl; split <;> rfl
theorem cscal {n : Int} (h0 : -2147483648 ≤ n) (h1 : n ≤ 2147483647) {s : Nat} (hs : s ∈ szs) (hc : inCls s (zz n)) : @V.Holds V.sig0 Tryz.prog 9 [sch, tx 8, vv 8 n, lim] [.lst (cb1 s n), .int .i64 0] := by
  obtain ⟨hw, hf⟩ := i32fits n h0 h1
  have e1 : V.inDs (sn n) [sch, tx 8, nv 8] = [sch, tx 8, vv 8 n] := by rfl
  have g1 : @V.Holds (V.sigOf (sn n)) Tryz.prog 15 [sch, tx 8, nv 8] [.bool true] := V.Holds.outs (plainSn n) (by rw [e1]; exact check0 (by decide) hw hf)
  have g2 : @V.Holds (V.sigOf (sn n)) Tryz.prog 62 [.sym 30] [.sym 31] := V.Holds.outs (plainSn n) (zigHolds n)
  have ht : @V.TblOk (V.sigOf (sn n)) Tryz.prog tCl := @V.TblOk.cons (V.sigOf (sn n)) _ _ _ _ (@V.RowOk.cons (V.sigOf (sn n)) _ _ _ _ _ g1 (@V.RowOk.nil (V.sigOf (sn n)) _ _)) (@V.TblOk.cons (V.sigOf (sn n)) _ _ _ _ (@V.RowOk.cons (V.sigOf (sn n)) _ _ _ _ _ g2 (@V.RowOk.nil (V.sigOf (sn n)) _ _)) (@V.TblOk.any (V.sigOf (sn n)) _ _ tno to3))
  have hg : @V.Good (V.sigOf (sn n)) Tryz.prog (aCl s) := @V.Good.mk (V.sigOf (sn n)) _ _ named (@V.spec_of_tbl (V.sigOf (sn n)) _ _ ht) (@V.orc_of (V.sigOf (sn n)) _ _ (fClOk h0 h1 hs hc) _ rfl) (@V.call_none (V.sigOf (sn n)) _ _ rfl)
  have r := V.Holds.ins (plainSn n) (@V.holds_of_tells (V.sigOf (sn n)) _ _ hg regs follows _ _ _ _ (runCl s hs))
  have e2 : V.inDs (sn n) [sch, tx 8, nv 8, lim] = [sch, tx 8, vv 8 n, lim] := by rfl
  rw [e2] at r
  exact r
end Go.Proofs.YtjmfkfmcigdgbaaGreat.Say
