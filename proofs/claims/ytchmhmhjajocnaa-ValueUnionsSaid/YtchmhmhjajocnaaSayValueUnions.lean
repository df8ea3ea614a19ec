/- ValueUnions: the law's run, put together. -/
import Derived.Test.YtchmhmhjajocnaaSayUnionEnd
set_option linter.unusedVariables false
set_option linter.unusedSimpArgs false
namespace Go.Proofs.Ytchmhmhjajocnaa.Say
open Go Go.RowKit
open V (D)
instance : V.Sig := V.sig0

theorem endsTrue_run {P : Program} {an : V.An} {c : Code} {s : V.St} (h : endsTrue P an c s = true) : ∃ s', V.exec P an 400 c s = some (.ret, s') ∧ s'.tm[4]? = some (.dat (.bool true)) := by
  unfold endsTrue at h
  split at h
  · rename_i s' he
    split at h
    · rename_i b hb; subst h; exact ⟨s', he, hb⟩
    · simp at h
  · simp at h
theorem retOk {σ : Nat → D} {s' : V.St} (h : s'.tm[4]? = some (.dat (.bool true))) : Try.f3.results.toList.mapM (V.resU Try.prog (V.getO (V.inS σ s').st) (V.inS σ s').tm) = some [.dat (.bool true)] := by
  have h1 : (V.inS σ s').tm[4]? = some (.dat (.bool true)) := by
    simp only [V.inS]
    have := V.at_inUs (σ := σ) h
    simpa only [V.inU, V.inD] using this
  have h2 : Try.f3.results.toList = [.tmp 4] := by kernel_rfl
  rw [h2]
  simp [V.resU, h1]

/-! What names stand for. -/
def rs (l : List Nat) : List Nat := l.map (· % 6)
def sU (l : List Nat) (A : D) (k : Nat) : Nat → D := fun n =>
  if n < 30 then
    match n with
    | 1 => A
    | 2 => .int .u8 k
    | 4 => num l.length
    | _ => .nil
  else if n < 50 then num ((rs l).getD (n - 30) 0)
  else if n < 70 then .int .u8 ((rs l).getD (n - 50) 0)
  else .int .u8 (l.getD (n - 70) 0)
def Row (l : List Nat) (A : D) : Prop := (A = .nil ∧ l = []) ∨ A = .lst (l.map fun (z : Nat) => D.int .u8 z)
theorem noBytes : ∀ l : List Nat, V.noSyms (l.map fun (z : Nat) => D.int .u8 z) = true
  | [] => rfl
  | z :: l => by simp only [List.map_cons, V.noSyms, noBytes l, Bool.and_true]; rfl
theorem plainU {l : List Nat} {A : D} (h : Row l A) (k : Nat) : V.Plain (sU l A k) := by
  have h1 : A.one = true ∧ V.noSym A = true := by
    rcases h with ⟨rfl, _⟩ | rfl
    · exact ⟨rfl, rfl⟩
    · exact ⟨rfl, by simp only [V.noSym]; exact noBytes _⟩
  constructor
  · intro j
    unfold sU
    split
    · split <;> first | rfl | exact h1.1
    · split
      · rfl
      · split <;> rfl
  · intro j
    unfold sU
    split
    · split <;> first | rfl | exact h1.2
    · split
      · rfl
      · split <;> rfl
theorem su30 (l : List Nat) (A : D) (k j : Nat) (h : j < 20) : sU l A k (30 + j) = num ((rs l).getD j 0) := by
  unfold sU
  rw [if_neg (by omega), if_pos (by omega), Nat.add_sub_cancel_left]
theorem su50 (l : List Nat) (A : D) (k j : Nat) (h : j < 20) : sU l A k (50 + j) = .int .u8 ((rs l).getD j 0) := by
  unfold sU
  rw [if_neg (by omega), if_neg (by omega), if_pos (by omega), Nat.add_sub_cancel_left]
theorem su70 (l : List Nat) (A : D) (k j : Nat) : sU l A k (70 + j) = .int .u8 (l.getD j 0) := by
  unfold sU
  rw [if_neg (by omega), if_neg (by omega), if_neg (by omega), Nat.add_sub_cancel_left]
theorem rs_get (l : List Nat) (j : Nat) : (rs l).getD j 0 = l.getD j 0 % 6 := by
  unfold rs
  by_cases hj : j < l.length
  · simp [List.getD, List.getElem?_map, List.getElem?_eq_getElem hj]
  · simp [List.getD, List.getElem?_map, List.getElem?_eq_none (Nat.le_of_not_lt hj)]
theorem rs_len (l : List Nat) : (rs l).length = l.length := by simp [rs]
theorem rs_lt (l : List Nat) : ∀ c ∈ rs l, c < 6 := by
  intro c hc
  simp only [rs, List.mem_map] at hc
  obtain ⟨z, _, rfl⟩ := hc
  omega
theorem sz5 : V.sizeT Try.prog 5 = some 1 := by kernel_rfl
section
variable {l : List Nat} {A : D} (h : Row l A) (k : Nat)
include h
theorem gLnOk : ∀ f ∈ gLn, @V.Gact.ok (V.sigOf (sU l A k)) Try.prog f := by
  intro f hf
  simp only [gLn, List.mem_cons, List.not_mem_nil, or_false] at hf
  subst hf
  refine ⟨l.length, rfl, .inl ⟨⟨_, Try.underlying22⟩, ?_⟩⟩
  rcases h with ⟨h1, h2⟩ | h1
  · exact .inl ⟨h1, by rw [h2]; rfl⟩
  · exact .inr ⟨_, h1, by simp⟩
theorem gEok : ∀ f ∈ gE l.length, @V.Gact.ok (V.sigOf (sU l A k)) Try.prog f := by
  intro f hf
  simp only [gE, List.mem_cons, List.not_mem_nil, or_false] at hf
  subst hf
  refine ⟨l.length, rfl, .inl ⟨⟨_, Try.underlying22⟩, ?_⟩⟩
  rcases h with ⟨h1, h2⟩ | h1
  · exact .inl ⟨h1, by rw [h2]; rfl⟩
  · exact .inr ⟨_, h1, by simp⟩
theorem gUok (i : Nat) (hi : i < l.length) : ∀ f ∈ gU i, @V.Gact.ok (V.sigOf (sU l A k)) Try.prog f := by
  letI : V.Sig := V.sigOf (sU l A k)
  intro f hf
  simp only [gU, List.mem_cons] at hf
  rcases hf with rfl | hf
  · have h1 : A = .lst (l.map fun (z : Nat) => D.int .u8 z) := by
      rcases h with ⟨_, h2⟩ | h1
      · subst h2; simp at hi
      · exact h1
    refine ⟨.i64, i, _, .int .u8 (l.getD i 0), 5, h1, rfl, by omega, by simp [List.getElem?_map, List.getElem?_eq_getElem hi, List.getD], Try.underlying22, sz5, by show 0 < 1; omega, rfl, ?_⟩
    intro j c y hc hy
    simp only [V.D.cells] at hy
    match j with
    | 0 => simp at hc hy; subst hc; subst hy; exact .inr ⟨70 + i, rfl, su70 l A k i⟩
    | j + 1 => simp at hc
  · exact gLnOk h k f hf
end
theorem inSyms {l : List Nat} {A : D} (k i : Nat) (hi : i ≤ 5) (hl : i ≤ l.length) : V.inDs (sU l A k) (syms i) = ((rs l).take i).map num := by
  simp only [syms, V.inDs_eq, List.map_map]
  refine List.ext_getElem? fun j => ?_
  by_cases hj : j < i
  · have h1 : j < (rs l).length := by rw [rs_len]; omega
    rw [List.getElem?_map, List.getElem?_map, List.getElem?_range hj, List.getElem?_take, if_pos hj, List.getElem?_eq_getElem h1]
    simp only [Option.map_some, Function.comp, V.inD, su30 l A k j (by omega)]
    simp [List.getD, List.getElem?_eq_getElem h1]
  · rw [List.getElem?_eq_none (by simp; omega), List.getElem?_eq_none (by simp; omega)]
theorem inEltCells (σ : Nat → D) (i : Nat) : V.inUs σ ((eltCells i).map .dat) = (eltCells i).map .dat := by
  rw [V.inUs_eq, List.map_map]
  refine List.map_congr_left fun d hd => ?_
  simp only [Function.comp, V.inU]
  congr 1
  refine V.inD_no σ d ?_
  simp only [eltCells, List.mem_flatMap, List.mem_cons, List.not_mem_nil, or_false] at hd
  obtain ⟨j, _, rfl | rfl | rfl | rfl | rfl⟩ := hd <;> rfl
theorem inLS (σ : Nat → D) (a k : D) (q : Nat) (r t : Bool) (i : Nat) (ws : List D) : V.inS σ (LS a k q r t i ws) = LS (V.inD σ a) (V.inD σ k) q r t i (V.inDs σ ws) := by
  have h3 : ∀ u v, V.inO σ (oW u v) = oW (V.inU σ u) (V.inU σ v) := by
    intro u v
    simp only [V.inO, oW, V.inUs_eq, List.map_cons, List.map_nil, V.inU, V.inD, inMt]
  unfold LS
  by_cases h0 : i = 0
  · simp only [if_pos h0, V.inS, V.inUs_eq, List.map_append, List.map_cons, List.map_nil, V.inU, V.inD, inNum, List.map_replicate, V.inSt, inoX, h3]
  · have h1 : V.inO σ ⟨3, 1, false, i - 1, false, ws.map .dat⟩ = ⟨3, 1, false, i - 1, false, (V.inDs σ ws).map .dat⟩ := by
      simp only [V.inO, V.inUs_eq, V.inDs_eq, List.map_map]
      rfl
    have h2 : V.inO σ ⟨30, 5, true, i - 1, false, (eltCells i).map .dat⟩ = ⟨30, 5, true, i - 1, false, (eltCells i).map .dat⟩ := by
      simp only [V.inO, inEltCells]
    simp only [if_neg h0, V.inS, V.inUs_eq, List.map_append, List.map_cons, List.map_nil, V.inU, V.inD, inNum, List.map_replicate, V.inSt, inoX, h1, h2, h3]

/-! The law. -/
/-- the state at the head of the loop -/
def HU (l : List Nat) (A : D) (k q : Nat) (r t : Bool) (i : Nat) : V.St := LS A (.int .u8 k) q r t i (((rs l).take i).map num)
theorem inHU {l : List Nat} {A : D} (k q : Nat) (r t : Bool) (i : Nat) (hi : i ≤ 5) (hl : i ≤ l.length) : V.inS (sU l A k) (hU q r t i) = HU l A k q r t i := by
  rw [hU, inLS, inSyms k i hi hl]
  rfl
theorem goodU {σ : Nat → D} {f : List V.Fact} {g : List V.Gact} (hf : ∀ x ∈ f, @V.Fact.ok (V.sigOf σ) Try.prog x) (hg : ∀ x ∈ g, @V.Gact.ok (V.sigOf σ) Try.prog x) : @V.Good (V.sigOf σ) Try.prog { an5 with orc := V.orcOr (V.orcOf f) (V.orcG g) } :=
  @V.Good.mk (V.sigOf σ) _ _ named (@V.spec_of_tbl (V.sigOf σ) _ _ (V.TblOk.any tno to5)) (@V.orc_both (V.sigOf σ) _ _ _ hf hg _ rfl)
section
variable {l : List Nat} {A : D} (h : Row l A) (k q : Nat)
include h
theorem roundU (hl : l.length ≤ 5) (hb : ∀ z ∈ l, z < 256) (r t : Bool) (i : Nat) (hi : i < l.length) :
    @V.Run V.sig0 Try.prog bU (HU l A k q r t i) .normal (HU l A k q (r && (decide (ahead (rs l) i < (rs l).getD i 0) && decide ((rs l).getD i 0 ≤ 4))) (t || decide ((rs l).getD i 0 = 2)) (i + 1)) := by
  have hP := plainU h k
  have hz : l.getD i 0 < 256 := by
    have : l.getD i 0 = l[i] := by simp [List.getD, List.getElem?_eq_getElem hi]
    rw [this]
    exact hb _ (List.getElem_mem hi)
  have hm := rs_get l i
  generalize hc : (rs l).getD i 0 = c at hm
  have hc6 : c < 6 := by omega
  have ha : i ≠ 0 → ahead (rs l) i = (rs l).getD (i - 1) 0 := fun h0 => by simp only [ahead, if_neg h0]
  have ha0 : i = 0 → ahead (rs l) i = 0 := fun h0 => by simp only [ahead, if_pos h0]
  letI : V.Sig := V.sigOf (sU l A k)
  have p30 : V.plain (.sym (30 + i)) = .int .i64 c := by have := su30 l A k i (by omega); rw [hc] at this; exact this
  have p29 : i ≠ 0 → V.plain (.sym (29 + i)) = .int .i64 (ahead (rs l) i : Nat) := by
    intro h0
    have := su30 l A k (i - 1) (by omega)
    rw [ha h0]
    have e : 29 + i = 30 + (i - 1) := by omega
    rw [e]
    exact this
  have base : ∀ {R T : Nat}, (∀ f ∈ fRise i R, V.Fact.ok Try.prog f) → (∀ f ∈ fTwo i T, V.Fact.ok Try.prog f) → ∀ f ∈ fU i R T, V.Fact.ok Try.prog f := by
    intro R T hR hT f hf
    simp only [fU, List.mem_cons, List.mem_append] at hf
    rcases hf with rfl | rfl | rfl | hf | hf
    · exact V.okc (k := .i64) (m := i) (n := l.length) rfl rfl (V.c_lssT (by omega))
    · exact V.oka (k := .u8) (m := l.getD i 0) (n := 6) (r := c) (su70 l A k i) rfl (by simp only [V.ariI]; rw [if_neg (by omega), Int.tmod_eq_emod_of_nonneg (by omega)]; congr 1; omega) (by have := su50 l A k i (by omega); rw [hc] at this; exact this)
    · have e : IntKind.i64.wrap (c : Int) = c := by rw [V.wr_i64]; omega
      exact V.okv (k := .u8) (j := .i64) (n := c) Try.underlying5 (by have := su50 l A k i (by omega); rw [hc] at this; exact this) Try.underlying3 (by rw [e]; exact p30)
    · exact hR f hf
    · exact hT f hf
  -- which way it goes
  obtain ⟨R, hR5, hR3, hR0, hR4, hRok⟩ : ∃ R, R < 5 ∧ (R = 3 → i ≠ 0) ∧ decide (R ≠ 0) = r ∧ decide (R = 4) = (r && (decide (ahead (rs l) i < c) && decide (c ≤ 4))) ∧ ∀ f ∈ fRise i R, V.Fact.ok Try.prog f := by
    cases r
    · exact ⟨0, by omega, by omega, rfl, rfl, fun f hf => by simp [fRise] at hf⟩
    · by_cases h1 : c < 1
      · have hx : ¬ ahead (rs l) i < c := by omega
        refine ⟨1, by omega, by omega, rfl, by rw [decide_eq_false hx]; rfl, fun f hf => ?_⟩
        simp only [fRise, List.mem_cons, List.not_mem_nil, or_false] at hf
        subst hf
        exact V.okc (k := .i64) (m := c) (n := 1) p30 rfl (V.c_geqF (by omega))
      · by_cases h2 : 4 < c
        · have hx : ¬ c ≤ 4 := by omega
          refine ⟨2, by omega, by omega, rfl, by rw [decide_eq_false hx, Bool.and_false]; rfl, fun f hf => ?_⟩
          simp only [fRise, List.mem_cons, List.not_mem_nil, or_false] at hf
          rcases hf with rfl | rfl
          · exact V.okc (k := .i64) (m := c) (n := 1) p30 rfl (V.c_geqT (by omega))
          · exact V.okc (k := .i64) (m := c) (n := 4) p30 rfl (V.c_leqF (by omega))
        · by_cases h3 : ahead (rs l) i < c
          · have hx : c ≤ 4 := by omega
            refine ⟨4, by omega, by omega, rfl, by rw [decide_eq_true h3, decide_eq_true hx]; rfl, fun f hf => ?_⟩
            simp only [fRise, List.mem_cons] at hf
            rcases hf with rfl | rfl | hf
            · exact V.okc (k := .i64) (m := c) (n := 1) p30 rfl (V.c_geqT (by omega))
            · exact V.okc (k := .i64) (m := c) (n := 4) p30 rfl (V.c_leqT (by omega))
            · by_cases h0 : i = 0
              · rw [if_pos h0] at hf; simp at hf
              · rw [if_neg h0] at hf
                simp only [List.mem_cons, List.not_mem_nil, or_false] at hf
                subst hf
                exact V.okc (k := .i64) (m := c) (n := (ahead (rs l) i : Nat)) p30 (p29 h0) (V.c_gtrT (by omega))
          · have h0 : i ≠ 0 := fun h0 => h3 (by rw [ha0 h0]; omega)
            refine ⟨3, by omega, fun _ => h0, rfl, by rw [decide_eq_false h3]; rfl, fun f hf => ?_⟩
            simp only [fRise, List.mem_cons, List.not_mem_nil, or_false] at hf
            rcases hf with rfl | rfl | rfl
            · exact V.okc (k := .i64) (m := c) (n := 1) p30 rfl (V.c_geqT (by omega))
            · exact V.okc (k := .i64) (m := c) (n := 4) p30 rfl (V.c_leqT (by omega))
            · exact V.okc (k := .i64) (m := c) (n := (ahead (rs l) i : Nat)) p30 (p29 h0) (V.c_gtrF (by omega))
  obtain ⟨T, hT3, hT0, hT1, hTok⟩ : ∃ T, T < 3 ∧ decide (T = 0) = t ∧ decide (T ≤ 1) = (t || decide (c = 2)) ∧ ∀ f ∈ fTwo i T, V.Fact.ok Try.prog f := by
    cases t
    · by_cases h1 : c = 2
      · refine ⟨1, by omega, rfl, by rw [decide_eq_true h1]; rfl, fun f hf => ?_⟩
        simp only [fTwo, List.mem_cons, List.not_mem_nil, or_false] at hf
        subst hf
        exact V.okc (k := .i64) (m := c) (n := 2) p30 rfl (V.c_eqlT (by omega))
      · refine ⟨2, by omega, rfl, by rw [decide_eq_false h1]; rfl, fun f hf => ?_⟩
        simp only [fTwo, List.mem_cons, List.not_mem_nil, or_false] at hf
        subst hf
        exact V.okc (k := .i64) (m := c) (n := 2) p30 rfl (V.c_eqlF (by omega))
    · exact ⟨0, by omega, rfl, rfl, fun f hf => by simp [fTwo] at hf⟩
  have hr := ruU q i R T (by omega) hR5 hR3 hT3
  rw [hR0, hT0, hR4, hT1] at hr
  have rr := V.Run.ins hP (V.Run.of_upto (goodU (base hRok hTok) (gUok h k i hi)) regs follows regsU.2.2.2.2.2.2.2.1.2 hr)
  rw [inHU k q _ _ i (by omega) (by omega), inHU k q _ _ (i + 1) (by omega) (by omega)] at rr
  exact rr
theorem loopU (hl : l.length ≤ 5) (hb : ∀ z ∈ l, z < 256) : ∀ (m i : Nat) (r t : Bool), i + m = l.length →
    @V.LRun V.sig0 Try.prog bU (HU l A k q r t i) (.exit 2) (HU l A k q (r && chain (ahead (rs l) i) ((rs l).drop i)) (t || decide (2 ∈ (rs l).drop i)) l.length) := by
  intro m
  induction m with
  | zero =>
    intro i r t hi
    obtain rfl : i = l.length := by omega
    have hP := plainU h k
    have e : (rs l).drop l.length = [] := by rw [← rs_len l]; exact List.drop_length
    rw [e]
    have e1 : (r && chain (ahead (rs l) l.length) []) = r := by simp [chain]
    have e2 : (t || decide (2 ∈ ([] : List Nat))) = t := by simp
    rw [e1, e2]
    letI : V.Sig := V.sigOf (sU l A k)
    have rr := V.Run.ins hP (V.Run.of_upto (goodU (f := fXU l.length) (g := gLn) (by
      intro f hf
      simp only [fXU, List.mem_cons, List.not_mem_nil, or_false] at hf
      subst hf
      exact V.okc (k := .i64) (m := l.length) (n := l.length) rfl rfl (V.c_lssF (by omega))) (gLnOk h k)) regs follows regsU.2.2.2.2.2.2.2.1.2 (ruXU q l.length r t (by omega)))
    rw [inHU k q _ _ _ hl (Nat.le_refl _)] at rr
    letI : V.Sig := V.sig0
    exact V.LRun.out rr (by simp)
  | succ m ih =>
    intro i r t hi
    have hil : i < l.length := by omega
    have hil2 : i < (rs l).length := by rw [rs_len]; exact hil
    have rr := roundU h k q hl hb r t i hil
    have := ih (i + 1) (r && (decide (ahead (rs l) i < (rs l).getD i 0) && decide ((rs l).getD i 0 ≤ 4))) (t || decide ((rs l).getD i 0 = 2)) (by omega)
    have e1 : ((r && (decide (ahead (rs l) i < (rs l).getD i 0) && decide ((rs l).getD i 0 ≤ 4))) && chain (ahead (rs l) (i + 1)) ((rs l).drop (i + 1))) = (r && chain (ahead (rs l) i) ((rs l).drop i)) := by
      rw [chain_drop hil2, Bool.and_assoc]
    have e2 : ((t || decide ((rs l).getD i 0 = 2)) || decide (2 ∈ (rs l).drop (i + 1))) = (t || decide (2 ∈ (rs l).drop i)) := by
      have hg : (rs l).getD i 0 = (rs l)[i] := by simp [List.getD, List.getElem?_eq_getElem hil2]
      have hm : (2 ∈ (rs l).drop i) ↔ ((rs l).getD i 0 = 2 ∨ 2 ∈ (rs l).drop (i + 1)) := by
        rw [List.drop_eq_getElem_cons hil2, List.mem_cons, hg]
        constructor
        · rintro (h | h)
          · exact .inl h.symm
          · exact .inr h
        · rintro (h | h)
          · exact .inl h.symm
          · exact .inr h
      rw [Bool.or_assoc, decide_eq_decide.2 hm, Bool.decide_or]
    rw [e1, e2] at this
    exact V.LRun.step rr this
theorem wholeU (hq : k % 4 = q) (hk : k < 256) (hb : ∀ z ∈ l, z < 256) :
    ∃ sF, @V.Run V.sig0 Try.prog cU ⟨[.dat A, .dat (.int .u8 k)] ++ List.replicate 141 .undef, [], 0⟩ .ret sF ∧ Try.f3.results.toList.mapM (V.resU Try.prog (V.getO sF.st) sF.tm) = some [.dat (.bool true)] := by
  have hP := plainU h k
  obtain ⟨g0, g1, g2, g3, g4, g5, g6, ⟨g7, gb⟩, g9⟩ := regsU
  have hB := goodB (V.sigOf (sU l A k))
  have e0 : V.inS (sU l A k) v0 = ⟨[.dat A, .dat (.int .u8 k)] ++ List.replicate 141 .undef, [], 0⟩ := by
    simp only [v0, V.inS, V.inUs_eq, List.map_append, List.map_cons, List.map_nil, V.inU, List.map_replicate, V.inSt]
    rfl
  letI : V.Sig := V.sigOf (sU l A k)
  have r0 := V.Run.ins hP (V.Run.of_exec hB regs follows g0 ru0)
  have r1 := V.Run.ins hP (V.Run.of_exec hB regs follows g1 ru1)
  rw [e0] at r0
  rw [shapeU]
  by_cases hl : l.length ≤ 5
  · have hq4 : q < 4 := by omega
    have r2 := V.Run.ins hP (V.Run.of_exec (goodU (f := fLen5 false) (g := gLn) (by
      intro f hf
      simp only [fLen5, List.mem_cons, List.not_mem_nil, or_false] at hf
      subst hf
      exact V.okc (k := .i64) (m := l.length) (n := 5) rfl rfl (V.c_gtrF (by omega))) (gLnOk h k)) regs follows g2 ru2)
    have hK : V.Good Try.prog (aK q) := ⟨named, V.spec_of_tbl (V.TblOk.any tno to5), V.orc_of (l := fK q) (by
      intro f hf
      simp only [fK, List.mem_cons, List.not_mem_nil, or_false] at hf
      rcases hf with rfl | rfl
      · exact V.oka (k := .u8) (m := k) (n := 4) (r := q) rfl rfl (by simp only [V.ariI]; rw [if_neg (by omega), Int.tmod_eq_emod_of_nonneg (by omega)]; congr 1; omega) rfl
      · exact V.oka (k := .u8) (m := k) (n := 2) (r := (q % 2 : Nat)) rfl rfl (by simp only [V.ariI]; rw [if_neg (by omega), Int.tmod_eq_emod_of_nonneg (by omega)]; congr 1; omega) rfl) rfl⟩
    obtain ⟨h3, h4⟩ := ru34 q hq4
    have r3 := V.Run.ins hP (V.Run.of_uptoD hK regs follows g3 h3)
    have r4 := V.Run.ins hP (V.Run.of_uptoD hK regs follows g4 h4)
    have r5 := V.Run.ins hP (V.Run.of_exec hB regs follows g5 (ru5 q))
    have r6 := V.Run.ins hP (V.Run.of_exec hB regs follows g6 (ru6 q))
    have r7 := V.Run.ins hP (V.Run.of_upto hB regs follows g7 (ru7 q))
    rw [inHU k q _ _ 0 (by omega) (by omega)] at r7
    have hL := loopU h k q hl hb l.length 0 true false (by omega)
    have ea : ahead (rs l) 0 = 0 := by simp [ahead]
    rw [List.drop_zero, ea, Bool.true_and, Bool.false_or] at hL
    have hw : wants q l.length (chain 0 (rs l)) (decide (2 ∈ rs l)) = (chain 0 (rs l) && asks q (rs l)) := by
      have h3 : q = 0 ∨ q = 1 ∨ q = 2 ∨ q = 3 := by omega
      rcases h3 with rfl | rfl | rfl | rfl <;> simp [wants, asks, rs_len]
    have hE : V.Good Try.prog (aE q l.length (wants q l.length (chain 0 (rs l)) (decide (2 ∈ rs l)))) := by
      have ht : V.Holds Try.prog 5 [s0, xk q, .agg [.int .i64 12, .int .i64 0, mt, eltV l.length, rowS 30 l.length]] [.bool (wants q l.length (chain 0 (rs l)) (decide (2 ∈ rs l)))] := by
        rw [hw]
        refine V.Holds.outs hP ?_
        have hx : V.inD (sU l A k) (xk q) = xk q := V.inD_no _ _ (by unfold xk flds fld i8 mt; rfl)
        have hs : V.inD (sU l A k) s0 = s0 := V.inD_no _ _ rfl
        have he : V.inD (sU l A k) (eltV l.length) = eltV l.length := V.inD_no _ _ (noEltV _)
        have hr : V.inD (sU l A k) (rowS 30 l.length) = idsV (rs l) := by
          have := inRowS (σ := sU l A k) (l := rs l) (k := 30) (fun j hj => su30 l A k j (by rw [rs_len] at hj; omega))
          rw [rs_len] at this
          exact this
        simp only [V.inDs, V.inD, hx, hs, he, hr, inMt]
        have := told q hq4 (rs l) (by rw [rs_len]; exact hl) (rs_lt l)
        unfold vV at this
        rw [rs_len] at this
        exact this
      exact ⟨named, V.spec_of_tbl (V.TblOk.cons (V.RowOk.cons ht V.RowOk.nil) V.TblOk.nil), V.orc_both (l := fE q) (m := gE l.length) (by
        intro f hf
        simp only [fE, List.mem_cons, List.not_mem_nil, or_false] at hf
        subst hf
        exact V.oka (k := .u8) (m := k) (n := 4) (r := q) rfl rfl (by simp only [V.ariI]; rw [if_neg (by omega), Int.tmod_eq_emod_of_nonneg (by omega)]; congr 1; omega) rfl) (gEok h k) rfl⟩
    obtain ⟨s', hs', ht'⟩ := endsTrue_run (ruE q l.length (chain 0 (rs l)) (decide (2 ∈ rs l)) hq4 (by omega))
    have r9 := V.Run.ins hP (V.Run.of_exec hE regs follows g9 hs')
    rw [inHU k q _ _ _ hl (Nat.le_refl _)] at r9
    letI : V.Sig := V.sig0
    exact ⟨_, V.Run.seq r0 (V.Run.seq r1 (V.Run.seq r2 (V.Run.seq r3 (V.Run.seq r4 (V.Run.seq r5 (V.Run.seq r6 (V.Run.seq (V.Run.seq r7 (V.Run.block_to (V.Run.loop hL))) r9))))))), retOk ht'⟩
  · obtain ⟨s', hs', ht'⟩ := endsTrue_run ru2t
    have r2 := V.Run.ins hP (V.Run.of_exec (goodU (f := fLen5 true) (g := gLn) (by
      intro f hf
      simp only [fLen5, List.mem_cons, List.not_mem_nil, or_false] at hf
      subst hf
      exact V.okc (k := .i64) (m := l.length) (n := 5) rfl rfl (V.c_gtrT (by omega))) (gLnOk h k)) regs follows g2 hs')
    letI : V.Sig := V.sig0
    exact ⟨_, V.Run.seq r0 (V.Run.seq r1 (V.Run.seq_out r2 (by simp))), retOk ht'⟩
end
theorem ValueUnions (W : World) (a0 : Option Addr) (len0 cap0 : Nat) (z0 : List Int) (a1 : Int)
    (w0 : (a0 = none ∧ len0 = 0 ∧ cap0 = 0 ∧ z0 = []) ∨ ∃ x, a0 = some x ∧ len0 ≤ cap0 ∧ cap0 ≤ maxLen ∧ z0.length = cap0 ∧ (∀ i, i < z0.length → W.cell? (x.add i) = some (.int .u8 (z0.getD i 0))) ∧ ∀ n ∈ z0, (Lit.int .u8 n).wf = true)
    (w1 : (Lit.int .u8 a1).wf = true) : Calls Try.prog 3 #[.slice a0 len0 cap0, .int .u8 a1] W (fun e W' => e = .returned (.bool true) ∧ Below W.heap.size W W') := by
  have b1 := V.wf_int w1
  simp only [IntKind.min, IntKind.max, IntKind.signed, IntKind.bits, Bool.false_eq_true, if_false] at b1
  obtain ⟨k, rfl⟩ : ∃ k : Nat, a1 = k := ⟨a1.toNat, by omega⟩
  have hz : ∀ z ∈ z0, 0 ≤ z ∧ z ≤ 255 := by
    intro z hm
    rcases w0 with ⟨_, _, _, rfl⟩ | ⟨x, _, _, _, _, _, h⟩
    · simp at hm
    · have := V.wf_int (h z hm)
      simpa [IntKind.min, IntKind.max, IntKind.signed, IntKind.bits] using this
  have hrow : Row ((z0.take len0).map Int.toNat) (V.rowD .u8 a0 len0 z0) := by
    rcases w0 with ⟨rfl, rfl, rfl, rfl⟩ | ⟨x, rfl, _, _, _, _, h⟩
    · exact .inl ⟨rfl, rfl⟩
    · refine .inr ?_
      simp only [V.rowD, Option.isNone_some, Bool.false_eq_true, if_false, List.map_map]
      congr 1
      refine List.map_congr_left fun z hm => ?_
      have := hz z (List.mem_of_mem_take hm)
      simp only [Function.comp]
      congr 1
      omega
  have hb : ∀ z ∈ (z0.take len0).map Int.toNat, z < 256 := by
    intro z hm
    simp only [List.mem_map] at hm
    obtain ⟨y, hy, rfl⟩ := hm
    have := hz y (List.mem_of_mem_take hy)
    omega
  obtain ⟨sF, hr, hres⟩ := wholeU hrow k (k % 4) rfl (by omega) hb
  exact V.law_of_run (us0 := [.dat (V.rowD .u8 a0 len0 z0), .dat (.int .u8 k)]) Try.func3 bodyU hr (.inr rfl) hres (V.args_cons (V.rep_row w0) (V.args_cons (.int _ _) V.args_nil))
end Go.Proofs.Ytchmhmhjajocnaa.Say
