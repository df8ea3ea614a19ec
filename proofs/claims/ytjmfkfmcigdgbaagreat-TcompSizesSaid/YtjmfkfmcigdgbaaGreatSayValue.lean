/- What the writer writes for a list of one value again and again. Mine. -/
import Derived.Test.YtjmfkfmcigdgbaaGreatSayLists
set_option linter.unusedVariables false
set_option linter.unusedSimpArgs false
namespace Go.Proofs.YtjmfkfmcigdgbaaGreat.Say
open Go Go.RowKit
open V (D)

def oS : V.Obj := ⟨38, 3, true, 0, false, [.dat .nil, .dat .nil, .dat .nil]⟩
def oL : V.Obj := ⟨26, 2, true, 0, false, [.dat (.int .i64 5), .dat (.int .i64 5000)]⟩
def oW (b : D) : V.Obj := ⟨55, 4, true, 0, false, [.dat .nil, .dat .nil, .dat .nil, .dat b]⟩
def stW (_l b : D) : V.Store := [(144, oW b)]
noncomputable def cV : Code := match Tryz.f16.body with
  | some c => c
  | none => .skip
noncomputable def v0 : Code := cf cV
noncomputable def v1 : Code := cf (cs cV)
noncomputable def v2 : Code := cf (cs (cs cV))
noncomputable def v3 : Code := cf (cs (cs (cs cV)))
noncomputable def vB : Code := cb (cs (cs (cs (cs cV))))
noncomputable def v6 : Code := cf vB
noncomputable def v7 : Code := ct (cs vB)
noncomputable def vE1 : Code := ce (cs vB)
noncomputable def v8 : Code := cf vE1
noncomputable def v9 : Code := ct (cs vE1)
noncomputable def vE2 : Code := ce (cs vE1)
noncomputable def v10 : Code := cf vE2
noncomputable def vL : Code := ct (cs vE2)
noncomputable def vE3 : Code := ce (cs vE2)
noncomputable def v11 : Code := cf vL
noncomputable def v12 : Code := cf (cs vL)
noncomputable def v13 : Code := cf (cs (cs vL))
noncomputable def vLp : Code := cb (cb (cs (cs (cs vL))))
theorem bodyV : Tryz.f16.body = some cV := by kernel_rfl
theorem shapeV : cV = .seq v0 (.seq v1 (.seq v2 (.seq v3 (.block 0 (.seq v6 (.cond (.tmp 48) v7 (.seq v8 (.cond (.tmp 59) v9 (.seq v10 (.cond (.tmp 72) (.seq v11 (.seq v12 (.seq v13 (.block 1 (.loop vLp))))) vE3)))))))))) := by kernel_rfl

/-! Names: 11: the bytes so far; 12: the list's length; 13: a number's bits; 14: the bytes behind one value more. -/
def wd : Int → Nat
  | 2 => 1
  | 3 => 1
  | 6 => 2
  | 8 => 4
  | _ => 8
def sw (k n : Int) (m i : Nat) (b : List D) : Nat → D
  | 11 => .lst b
  | 12 => .int .u64 m
  | 13 => .int .u64 (IntKind.u64.wrap n)
  | 14 => .lst (b ++ putB (wd k) (IntKind.u64.wrap n))
  | j => sg k n m i j
def noB (b : List D) : Prop := V.noSyms b = true
theorem noSyms_app : ∀ a b : List D, V.noSyms a = true → V.noSyms b = true → V.noSyms (a ++ b) = true
  | [], b, _, h => h
  | x :: a, b, h, h' => by
    simp only [V.noSyms, Bool.and_eq_true] at h
    simp only [List.cons_append, V.noSyms, Bool.and_eq_true]
    exact ⟨h.1, noSyms_app a b h.2 h'⟩
theorem noSyms_set : ∀ (l : List D) (j : Nat) (d : D), V.noSyms l = true → V.noSym d = true → V.noSyms (l.set j d) = true
  | [], _, _, h, _ => h
  | x :: l, 0, d, h, hd => by
    simp only [V.noSyms, Bool.and_eq_true] at h
    simp only [List.set, V.noSyms, Bool.and_eq_true]
    exact ⟨hd, h.2⟩
  | x :: l, j + 1, d, h, hd => by
    simp only [V.noSyms, Bool.and_eq_true] at h
    simp only [List.set, V.noSyms, Bool.and_eq_true]
    exact ⟨h.1, noSyms_set l j d h.2 hd⟩
theorem noFill : ∀ (z : Nat) (u : Int) (l : List D), V.noSyms l = true → V.noSyms (fill z u l) = true
  | 0, _, l, h => h
  | z + 1, u, l, h => by
    unfold fill
    exact noFill z _ _ (noSyms_set l z _ h rfl)
theorem noRep0 : ∀ z : Nat, V.noSyms (List.replicate z (.int .u8 0)) = true
  | 0 => rfl
  | z + 1 => by simp only [List.replicate, V.noSyms, noRep0 z, Bool.and_true]; rfl
theorem noPut (z : Nat) (u : Int) : V.noSyms (putB z u) = true := noFill z u _ (noRep0 z)
theorem plainSw (k n : Int) (m i : Nat) {b : List D} (hb : V.noSyms b = true) : V.Plain (sw k n m i b) := by
  constructor
  · intro j
    unfold sw
    split <;> first | rfl | exact (plainSg k n m i).1 _
  · intro j
    unfold sw
    split
    · exact hb
    · rfl
    · rfl
    · exact noSyms_app _ _ hb (noPut _ _)
    · exact (plainSg k n m i).2 _

/-! A value more. -/
def stV (l b : D) : V.Store := stW l b ++ [(192, obD l)]
def SV (k : Int) (l ln i b : D) : V.St := ⟨.ptr 144 0 0 :: (List.replicate 7 .junk ++ (.dat (tx k) :: (List.replicate 83 .junk ++ ([.dat l, .dat ln, .dat i] ++ List.replicate 49 .junk)))), stV l b, 1000⟩
def kV : List Bool := true :: (List.replicate 7 false ++ (true :: (List.replicate 83 false ++ [true, true, true])))
def idsV : List Nat := [144, 192]
def gIk (k : Int) : List V.Gact := .ix 27 (.sym 4) (.sym 3) [.int .i64 k, .sym 2, mt, .nil, .nil] :: gL
def fV : List V.Fact := fIn ++ [.conv 2 94 (.sym 2) (.sym 13)]
def tV (k : Int) : V.Tbl := (90, [([.sym 11, .sym 13, .int .i64 (wd k)], [.sym 14])]) :: t3
def aV (k : Int) (f : List V.Fact) (g : List V.Gact) : V.An := { an3 with spec := V.inTbl (tV k), orc := V.orcOr (V.orcOf f) (V.orcG g) }
set_option maxRecDepth 1000000 in
theorem runVin : ∀ k ∈ kinds, V.uptoD Tryz.prog (aV k fV (gIk k)) 400 vLp (SV k (.sym 4) (.sym 5) (.sym 3) (.sym 11)) idsV kV 1000 = some (.normal, SV k (.sym 4) (.sym 5) (.sym 6) (.sym 14)) := by
  intro k hk
  simp only [kinds, List.mem_cons, List.not_mem_nil, or_false] at hk
  rcases hk with rfl | rfl | rfl | rfl | rfl | rfl
  all_goals kernel_rfl
set_option maxRecDepth 1000000 in
theorem runVout : ∀ k ∈ kinds, V.uptoD Tryz.prog (aV k fOut gL) 400 vLp (SV k (.sym 4) (.sym 5) (.sym 3) (.sym 11)) idsV kV 1000 = some (.exit 1, SV k (.sym 4) (.sym 5) (.sym 3) (.sym 11)) := by
  intro k hk
  simp only [kinds, List.mem_cons, List.not_mem_nil, or_false] at hk
  rcases hk with rfl | rfl | rfl | rfl | rfl | rfl
  all_goals kernel_rfl
section
variable {k n : Int} {m i : Nat} {b : List D}
theorem gLOkW : ∀ f ∈ gL, @V.Gact.ok (V.sigOf (sw k n m i b)) Tryz.prog f := by
  letI : V.Sig := V.sigOf (sw k n m i b)
  intro f hf
  simp only [gL, List.mem_cons, List.not_mem_nil, or_false] at hf
  subst hf
  refine ⟨m, rfl, .inl ⟨⟨_, Tryz.underlying27⟩, ?_⟩⟩
  cases m with
  | zero => exact .inl ⟨rfl, rfl⟩
  | succ m => exact .inr ⟨_, rfl, by simp⟩
theorem gIkOk (hi : i < m) : ∀ f ∈ gIk k, @V.Gact.ok (V.sigOf (sw k n m i b)) Tryz.prog f := by
  letI : V.Sig := V.sigOf (sw k n m i b)
  intro f hf
  simp only [gIk, List.mem_cons] at hf
  rcases hf with rfl | hf
  · obtain ⟨q, rfl⟩ : ∃ q, m = q + 1 := ⟨m - 1, by omega⟩
    refine ⟨.i64, i, List.replicate (q + 1) (vv k n), vv k n, 29, rfl, rfl, by omega, by simp [hi], Tryz.underlying27, sz29, by show 0 < 5; omega, rfl, ?_⟩
    intro j c y hc hy
    simp only [vv, V.D.cells] at hy
    match j with
    | 0 => simp at hc hy; subst hc; subst hy; exact .inl rfl
    | 1 => simp at hc hy; subst hc; subst hy; exact .inr ⟨2, rfl, rfl⟩
    | 2 => simp at hc hy; subst hc; subst hy; exact .inl rfl
    | 3 => simp at hc hy; subst hc; subst hy; exact .inl rfl
    | 4 => simp at hc hy; subst hc; subst hy; exact .inl rfl
    | j + 5 => simp at hc
  · exact gLOkW f hf
theorem fVOk (hi : i < m) (hm : m < 1000) : ∀ f ∈ fV, @V.Fact.ok (V.sigOf (sw k n m i b)) Tryz.prog f := by
  letI : V.Sig := V.sigOf (sw k n m i b)
  intro f hf
  simp only [fV, fIn, List.cons_append, List.nil_append, List.mem_cons, List.not_mem_nil, or_false] at hf
  rcases hf with rfl | rfl | rfl
  · exact V.okc (k := .i64) (m := i) (n := m) rfl rfl (V.c_lssT (by omega))
  · exact V.oka (k := .i64) (m := i) (n := 1) (r := i + 1) rfl rfl (by simp only [V.ariI, V.wr_i64, Option.some.injEq]; omega) rfl
  · exact V.okv (k := .i64) (j := .u64) (n := n) Tryz.underlying2 rfl Tryz.underlying94 rfl
theorem fOutOkW : ∀ f ∈ fOut, @V.Fact.ok (V.sigOf (sw k n m m b)) Tryz.prog f := by
  letI : V.Sig := V.sigOf (sw k n m m b)
  intro f hf
  simp only [fOut, List.mem_cons, List.not_mem_nil, or_false] at hf
  subst hf
  exact V.okc (k := .i64) (m := m) (n := m) rfl rfl (V.c_lssF (by omega))
end
theorem wd_le (k : Int) : wd k ≤ 8 := by unfold wd; split <;> omega
/-- what the writer may hold -/
structure Bts (b : List D) : Prop where
  pos : 0 < b.length
  one : ∀ d ∈ b, d.one = true
  no : V.noSyms b = true
  len : b.length ≤ 100000000000
theorem rowPut (k n : Int) {b : List D} (h : Bts b) : @V.Holds V.sig0 Tryz.prog 90 [.lst b, .int .u64 (IntKind.u64.wrap n), .int .i64 (wd k)] [.lst (b ++ putB (wd k) (IntKind.u64.wrap n))] := putHolds b _ (wd k) (wd_le k) h.pos h.one h.len
theorem tVOk {k n : Int} {m i : Nat} {b : List D} (h : Bts b) : @V.TblOk (V.sigOf (sw k n m i b)) Tryz.prog (tV k) := by
  have h1 : @V.Holds (V.sigOf (sw k n m i b)) Tryz.prog 90 [.sym 11, .sym 13, .int .i64 (wd k)] [.sym 14] := V.Holds.outs (plainSw k n m i h.no) (rowPut k n h)
  exact @V.TblOk.cons (V.sigOf (sw k n m i b)) _ _ _ _ (@V.RowOk.cons (V.sigOf (sw k n m i b)) _ _ _ _ _ h1 (@V.RowOk.nil (V.sigOf (sw k n m i b)) _ _)) (@V.TblOk.any (V.sigOf (sw k n m i b)) _ _ tno to3)
theorem goodV {k n : Int} {m i : Nat} {b : List D} (h : Bts b) {f : List V.Fact} {g : List V.Gact} (hf : ∀ x ∈ f, @V.Fact.ok (V.sigOf (sw k n m i b)) Tryz.prog x) (hg : ∀ x ∈ g, @V.Gact.ok (V.sigOf (sw k n m i b)) Tryz.prog x) : @V.Good (V.sigOf (sw k n m i b)) Tryz.prog (aV k f g) :=
  @V.Good.mk (V.sigOf (sw k n m i b)) _ _ named (@V.spec_of_tbl (V.sigOf (sw k n m i b)) _ _ (tVOk h)) (@V.orc_both (V.sigOf (sw k n m i b)) _ _ _ hf hg _ rfl) (@V.call_none (V.sigOf (sw k n m i b)) _ _ rfl)
theorem regsV : V.Regs v0 ∧ V.Regs v1 ∧ V.Regs v2 ∧ V.Regs v3 ∧ (V.Regs v6 ∧ (V.Regs v7 ∧ (V.Regs v8 ∧ (V.Regs v9 ∧ (V.Regs v10 ∧ ((V.Regs v11 ∧ V.Regs v12 ∧ V.Regs v13 ∧ V.Regs vLp) ∧ V.Regs vE3)))))) := by
  have h := regs 16 Tryz.f16 cV Tryz.func16 bodyV
  rw [shapeV] at h
  exact h
theorem regsLp : V.Regs vLp := regsV.2.2.2.2.2.2.2.2.2.1.2.2.2
theorem one_fill : ∀ (z : Nat) (u : Int) (l : List D), (∀ d ∈ l, d.one = true) → ∀ d ∈ fill z u l, d.one = true
  | 0, _, l, h => h
  | z + 1, u, l, h => by
    unfold fill
    refine one_fill z _ _ (fun d hd => ?_)
    rcases List.mem_or_eq_of_mem_set hd with hd | rfl
    · exact h d hd
    · rfl
theorem one_put (z : Nat) (u : Int) : ∀ d ∈ putB z u, d.one = true :=
  one_fill z u _ (fun d hd => by rw [(List.mem_replicate.1 hd).2]; rfl)
theorem Bts.more {b : List D} (h : Bts b) (z : Nat) (u : Int) (hl : b.length + z ≤ 100000000000) : Bts (b ++ putB z u) :=
  ⟨by have := h.pos; rw [List.length_append]; omega, fun d hd => by
    rcases List.mem_append.1 hd with hd | hd
    · exact h.one d hd
    · exact one_put z u d hd, noSyms_app _ _ h.no (noPut z u), by rw [List.length_append, putB_length]; exact hl⟩
/-- so many values more -/
def grow (z : Nat) (u : Int) : Nat → List D → List D
  | 0, b => b
  | q + 1, b => grow z u q (b ++ putB z u)
theorem grow_length (z : Nat) (u : Int) : ∀ (q : Nat) (b : List D), (grow z u q b).length = b.length + q * z
  | 0, b => by simp [grow]
  | q + 1, b => by
    unfold grow
    rw [grow_length z u q, List.length_append, putB_length, Nat.succ_mul]
    omega
theorem inSV (σ : Nat → D) (k : Int) (l ln i b : D) : V.inS σ (SV k l ln i b) = SV k (V.inD σ l) (V.inD σ ln) (V.inD σ i) (V.inD σ b) := by
  simp only [SV, V.inS, V.inUs_eq, List.map_append, List.map_cons, List.map_nil, V.inU, V.inD, V.inDs, List.map_replicate, V.inSt, V.inO, stV, stW, oS, oL, oW, obD, mt, V.txt, V.inD_no _ _ (noTx k)]
/-- the state at the head of the loop -/
def HV (k n : Int) (m i : Nat) (b : List D) : V.St := SV k (rl k n m) (.int .i64 m) (.int .i64 i) (.lst b)
theorem loopV {k : Int} (hk : k ∈ kinds) (n : Int) (m : Nat) (hm : m < 1000) : ∀ (q i : Nat) (b : List D), i + q = m → Bts b → b.length + 8 * q ≤ 100000000000 → @V.LRun V.sig0 Tryz.prog vLp (HV k n m i b) (.exit 1) (HV k n m m (grow (wd k) (IntKind.u64.wrap n) q b)) := by
  intro q
  induction q with
  | zero =>
    intro i b hi hb _
    obtain rfl : i = m := by omega
    have r := V.Run.ins (plainSw k n i i hb.no) (@V.Run.of_uptoD (V.sigOf (sw k n i i b)) _ _ (goodV hb fOutOkW gLOkW) regs follows _ _ _ _ _ _ _ _ regsLp (runVout k hk))
    rw [inSV] at r
    exact V.LRun.out r (by simp)
  | succ q ih =>
    intro i b hi hb hl
    have hw := wd_le k
    have r := V.Run.ins (plainSw k n m i hb.no) (@V.Run.of_uptoD (V.sigOf (sw k n m i b)) _ _ (goodV hb (fVOk (by omega) hm) (gIkOk (by omega))) regs follows _ _ _ _ _ _ _ _ regsLp (runVin k hk))
    rw [inSV, inSV] at r
    have r' : @V.Run V.sig0 Tryz.prog vLp (HV k n m i b) .normal (HV k n m (i + 1) (b ++ putB (wd k) (IntKind.u64.wrap n))) := r
    exact V.LRun.step r' (ih (i + 1) _ (by omega) (hb.more _ _ (by omega)) (by rw [List.length_append, putB_length]; omega))

/-! What is ahead of them. -/
def zV (k : Int) : V.St := ⟨[.ptr 144 0 0, .dat (lt k), .dat wn] ++ List.replicate 141 .undef, stW (.sym 4) .nil, 192⟩
noncomputable def yy (c : Code) (s : V.St) : V.St := nd (V.exec Tryz.prog an3 400 c s)
noncomputable def zV1 (k : Int) : V.St := yy v0 (zV k)
noncomputable def zV2 (k : Int) : V.St := yy v1 (zV1 k)
noncomputable def zV3 (k : Int) : V.St := yy v2 (zV2 k)
noncomputable def zV4 (k : Int) : V.St := yy v3 (zV3 k)
noncomputable def zV5 (k : Int) : V.St := yy v6 (zV4 k)
noncomputable def zV6 (k : Int) : V.St := yy v8 (zV5 k)
noncomputable def zV7 (k : Int) : V.St := yy v10 (zV6 k)
def gLc : List V.Fact := [.conv 3 94 (.sym 5) (.sym 12)]
def tW (k : Int) : V.Tbl := (90, [([.nil, .int .u64 k, .int .i64 1], [.lst [.int .u8 k]]), ([.lst [.int .u8 k], .sym 12, .int .i64 4], [.sym 11])]) :: t3
set_option maxRecDepth 1000000 in
theorem runP1 : kinds.all (fun k => V.tells Tryz.prog an3 400 90 [.nil, .int .u64 k, .int .i64 1] [.lst [.int .u8 k]]) = true := by kernel_rfl
def aW (k : Int) : V.An := { an3 with spec := V.inTbl (tW k), orc := V.orcOr (V.orcOf gLc) (V.orcG gL) }
noncomputable def zV8 (k : Int) : V.St := nd (V.exec Tryz.prog (aW k) 400 v11 (zV7 k))
noncomputable def zV9 (k : Int) : V.St := nd (V.exec Tryz.prog (aW k) 400 v12 (zV8 k))
set_option maxRecDepth 1000000 in
theorem runVp : ∀ k ∈ kinds, V.exec Tryz.prog an3 400 v0 (zV k) = some (.normal, zV1 k) ∧ V.exec Tryz.prog an3 400 v1 (zV1 k) = some (.normal, zV2 k) ∧ V.exec Tryz.prog an3 400 v2 (zV2 k) = some (.normal, zV3 k) ∧ V.exec Tryz.prog an3 400 v3 (zV3 k) = some (.normal, zV4 k) := by
  intro k hk
  simp only [kinds, List.mem_cons, List.not_mem_nil, or_false] at hk
  rcases hk with rfl | rfl | rfl | rfl | rfl | rfl
  all_goals exact ⟨by kernel_rfl, by kernel_rfl, by kernel_rfl, by kernel_rfl⟩
set_option maxRecDepth 1000000 in
theorem runVq : ∀ k ∈ kinds, V.exec Tryz.prog an3 400 v6 (zV4 k) = some (.normal, zV5 k) ∧ V.exec Tryz.prog an3 400 v8 (zV5 k) = some (.normal, zV6 k) ∧ V.exec Tryz.prog an3 400 v10 (zV6 k) = some (.normal, zV7 k) ∧ V.exec Tryz.prog (aW k) 400 v11 (zV7 k) = some (.normal, zV8 k) := by
  intro k hk
  simp only [kinds, List.mem_cons, List.not_mem_nil, or_false] at hk
  rcases hk with rfl | rfl | rfl | rfl | rfl | rfl
  all_goals exact ⟨by kernel_rfl, by kernel_rfl, by kernel_rfl, by kernel_rfl⟩
set_option maxRecDepth 1000000 in
theorem condsV : ∀ k ∈ kinds, V.evalU (zV5 k).tm (.tmp 48) = some (.dat (.bool false)) ∧ V.evalU (zV6 k).tm (.tmp 59) = some (.dat (.bool false)) ∧ V.evalU (zV7 k).tm (.tmp 72) = some (.dat (.bool true)) := by
  intro k hk
  simp only [kinds, List.mem_cons, List.not_mem_nil, or_false] at hk
  rcases hk with rfl | rfl | rfl | rfl | rfl | rfl
  all_goals exact ⟨by kernel_rfl, by kernel_rfl, by kernel_rfl⟩
set_option maxRecDepth 1000000 in
theorem runVr : ∀ k ∈ kinds, V.exec Tryz.prog (aW k) 400 v12 (zV8 k) = some (.normal, zV9 k) ∧ V.uptoD Tryz.prog (aW k) 400 v13 (zV9 k) idsV kV 1000 = some (.normal, SV k (.sym 4) (.sym 5) (.int .i64 0) (.sym 11)) := by
  intro k hk
  simp only [kinds, List.mem_cons, List.not_mem_nil, or_false] at hk
  rcases hk with rfl | rfl | rfl | rfl | rfl | rfl
  all_goals exact ⟨by kernel_rfl, by kernel_rfl⟩
/-- the head of a list's bytes -/
def b0 (k : Int) (m : Nat) : List D := [.int .u8 k] ++ putB 4 m
theorem bts0 (k : Int) (m : Nat) : Bts (b0 k m) :=
  ⟨by simp [b0], fun d hd => by
    rcases List.mem_append.1 hd with hd | hd
    · simp at hd; subst hd; rfl
    · exact one_put _ _ d hd, noSyms_app _ _ rfl (noPut _ _), by rw [b0, List.length_append, putB_length]; simp⟩
theorem tWOk {k n : Int} (hk : k ∈ kinds) {m : Nat} : @V.TblOk (V.sigOf (sw k n m 0 (b0 k m))) Tryz.prog (tW k) := by
  have h1 : @V.Holds (V.sigOf (sw k n m 0 (b0 k m))) Tryz.prog 90 [.nil, .int .u64 k, .int .i64 1] [.lst [.int .u8 k]] := @V.holds_of_tells (V.sigOf (sw k n m 0 (b0 k m))) _ _ (goodAny _) regs follows _ _ _ _ (List.all_eq_true.1 runP1 k hk)
  have h2 : @V.Holds (V.sigOf (sw k n m 0 (b0 k m))) Tryz.prog 90 [.lst [.int .u8 k], .sym 12, .int .i64 4] [.sym 11] := V.Holds.outs (plainSw k n m 0 (bts0 k m).no) (putHolds [.int .u8 k] m 4 (by decide) (by simp) (fun d hd => by simp at hd; subst hd; rfl) (by simp))
  exact @V.TblOk.cons (V.sigOf (sw k n m 0 (b0 k m))) _ _ _ _ (@V.RowOk.cons (V.sigOf (sw k n m 0 (b0 k m))) _ _ _ _ _ h1 (@V.RowOk.cons (V.sigOf (sw k n m 0 (b0 k m))) _ _ _ _ _ h2 (@V.RowOk.nil (V.sigOf (sw k n m 0 (b0 k m))) _ _))) (@V.TblOk.any (V.sigOf (sw k n m 0 (b0 k m))) _ _ tno to3)
theorem gLcOk {k n : Int} {m : Nat} (hm : m < 1000) {b : List D} : ∀ f ∈ gLc, @V.Fact.ok (V.sigOf (sw k n m 0 b)) Tryz.prog f := by
  letI : V.Sig := V.sigOf (sw k n m 0 b)
  intro f hf
  simp only [gLc, List.mem_cons, List.not_mem_nil, or_false] at hf
  subst hf
  have hw : IntKind.u64.wrap (m : Int) = m := by rw [V.wr_u64]; omega
  refine V.okv (k := .i64) (j := .u64) (n := m) Tryz.underlying3 rfl Tryz.underlying94 ?_
  rw [hw]
  rfl
theorem goodW {k n : Int} (hk : k ∈ kinds) {m : Nat} (hm : m < 1000) : @V.Good (V.sigOf (sw k n m 0 (b0 k m))) Tryz.prog (aW k) :=
  @V.Good.mk (V.sigOf (sw k n m 0 (b0 k m))) _ _ named (@V.spec_of_tbl (V.sigOf (sw k n m 0 (b0 k m))) _ _ (tWOk hk)) (@V.orc_both (V.sigOf (sw k n m 0 (b0 k m))) _ _ _ (gLcOk hm) gLOkW _ rfl) (@V.call_none (V.sigOf (sw k n m 0 (b0 k m))) _ _ rfl)
theorem valueRun {k : Int} (hk : k ∈ kinds) (n : Int) (m : Nat) (hm : m < 1000) : @V.Run V.sig0 Tryz.prog cV (V.inS (sw k n m 0 (b0 k m)) (zV k)) .normal (HV k n m m (grow (wd k) (IntKind.u64.wrap n) m (b0 k m))) := by
  have hP := plainSw k n m 0 (bts0 k m).no
  have ex : ∀ {c : Code} {s s' : V.St}, V.Regs c → V.exec Tryz.prog an3 400 c s = some (.normal, s') → @V.Run V.sig0 Tryz.prog c (V.inS (sw k n m 0 (b0 k m)) s) .normal (V.inS (sw k n m 0 (b0 k m)) s') := fun hr h => V.Run.ins hP (@V.Run.of_exec (V.sigOf (sw k n m 0 (b0 k m))) _ _ (goodAny _) regs follows _ _ _ _ _ hr h)
  have ew : ∀ {c : Code} {s s' : V.St}, V.Regs c → V.exec Tryz.prog (aW k) 400 c s = some (.normal, s') → @V.Run V.sig0 Tryz.prog c (V.inS (sw k n m 0 (b0 k m)) s) .normal (V.inS (sw k n m 0 (b0 k m)) s') := fun hr h => V.Run.ins hP (@V.Run.of_exec (V.sigOf (sw k n m 0 (b0 k m))) _ _ (goodW hk hm) regs follows _ _ _ _ _ hr h)
  obtain ⟨g0, g1, g2, g3, g6, _, g8, _, g10, ⟨g11, g12, g13, _⟩, _⟩ := regsV
  obtain ⟨p0, p1, p2, p3⟩ := runVp k hk
  obtain ⟨p6, p8, p10, p11⟩ := runVq k hk
  obtain ⟨p12, p13⟩ := runVr k hk
  obtain ⟨c6, c8, c10⟩ := condsV k hk
  have r13 := V.Run.ins hP (@V.Run.of_uptoD (V.sigOf (sw k n m 0 (b0 k m))) _ _ (goodW hk hm) regs follows _ _ _ _ _ _ _ _ g13 p13)
  rw [inSV] at r13
  have r13' : @V.Run V.sig0 Tryz.prog v13 (V.inS (sw k n m 0 (b0 k m)) (zV9 k)) .normal (HV k n m 0 (b0 k m)) := r13
  have rL := V.Run.block_to (id := 1) (V.Run.loop (loopV hk n m hm m 0 (b0 k m) (by omega) (bts0 k m) (by rw [b0, List.length_append, putB_length]; simp; omega)))
  have cc : ∀ {s : V.St} {j : Nat} {r : Bool}, V.evalU s.tm (.tmp j) = some (.dat (.bool r)) → V.evalU (V.inS (sw k n m 0 (b0 k m)) s).tm (.tmp j) = some (.dat (.bool r)) := by
    intro s j r h
    have h' : s.tm[j]? = some (.dat (.bool r)) := h
    show (V.inUs (sw k n m 0 (b0 k m)) s.tm)[j]? = _
    rw [V.inUs_eq, List.getElem?_map, h']
    rfl
  rw [shapeV]
  refine V.Run.seq (ex g0 p0) (V.Run.seq (ex g1 p1) (V.Run.seq (ex g2 p2) (V.Run.seq (ex g3 p3) ?_)))
  have rB : @V.Run V.sig0 Tryz.prog (.seq v6 (.cond (.tmp 48) v7 (.seq v8 (.cond (.tmp 59) v9 (.seq v10 (.cond (.tmp 72) (.seq v11 (.seq v12 (.seq v13 (.block 1 (.loop vLp))))) vE3)))))) (V.inS (sw k n m 0 (b0 k m)) (zV4 k)) .normal (HV k n m m (grow (wd k) (IntKind.u64.wrap n) m (b0 k m))) :=
    V.Run.seq (ex g6 p6) (V.Run.cond_false (cc c6) (V.Run.seq (ex g8 p8) (V.Run.cond_false (cc c8) (V.Run.seq (ex g10 p10) (V.Run.cond_true (cc c10) (V.Run.seq (ew g11 p11) (V.Run.seq (ew g12 p12) (V.Run.seq r13' rL))))))))
  exact V.Run.block (id := 0) rB
end Go.Proofs.YtjmfkfmcigdgbaaGreat.Say
