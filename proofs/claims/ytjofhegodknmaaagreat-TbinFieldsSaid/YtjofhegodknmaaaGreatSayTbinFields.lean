/- Fields may stand in any order, and others between them: the law as a call. Mine. -/
import Derived.Test.YtjofhegodknmaaaGreatOh
import Derived.Test.YtjofhegodknmaaaGreatArr4
set_option linter.unusedVariables false
set_option linter.unusedSimpArgs false
namespace Go.Proofs.YtjofhegodknmaaaGreat.Say
open Go Go.RowKit
theorem TbinFields (W : World) (a0 b0 c0 e0 : Int) (a1 : Option Addr) (len1 cap1 : Nat) (z1 : List Int) (w0 : (Lit.int .i8 a0).wf = true) (x0 : (Lit.int .i8 b0).wf = true) (y0 : (Lit.int .i8 c0).wf = true) (u0 : (Lit.int .i8 e0).wf = true)
    (w1 : (a1 = none ∧ len1 = 0 ∧ cap1 = 0 ∧ z1 = []) ∨ ∃ x, a1 = some x ∧ len1 ≤ cap1 ∧ cap1 ≤ maxLen ∧ z1.length = cap1 ∧ (∀ i, i < z1.length → W.cell? (x.add i) = some (.int .u8 (z1.getD i 0))) ∧ ∀ n ∈ z1, (Lit.int .u8 n).wf = true) :
    Calls Tryz.prog 3 #[.agg #[.int .i8 a0, .int .i8 b0, .int .i8 c0, .int .i8 e0], .slice a1 len1 cap1] W (fun e W' => e = .returned (.bool true) ∧ Below W.heap.size W W') := by
  letI : V.Sig := V.sig0
  have hrep1 := V.rep_row (k := .u8) w1
  have hb : ∀ {n : Int}, (Lit.int .i8 n).wf = true → -128 ≤ n ∧ n ≤ 127 := by
    intro n h
    have := V.wf_int h
    simp only [IntKind.min, IntKind.max, IntKind.signed, IntKind.bits, if_true] at this
    omega
  have b1 : ∀ n ∈ z1.take len1, 0 ≤ n ∧ n ≤ 255 := by
    intro n hn
    rcases w1 with ⟨rfl, rfl, rfl, rfl⟩ | ⟨_, _, _, _, _, _, h⟩
    · simp at hn
    · have := V.wf_int (h n (List.mem_of_mem_take hn))
      simp only [IntKind.min, IntKind.max, IntKind.signed, IntKind.bits, Bool.false_eq_true, if_false] at this
      omega
  have e1 : (z1.take len1).map (V.D.int .u8) = ((z1.take len1).map Int.toNat).map (fun h : Nat => V.D.int .u8 (h : Int)) := by
    rw [List.map_map]
    refine List.map_congr_left fun n hn => ?_
    have := b1 n hn
    show V.D.int .u8 n = V.D.int .u8 ((n.toNat : Nat) : Int)
    rw [Int.toNat_of_nonneg this.1]
  have hd : V.rowD .u8 a1 len1 z1 = Tbf.rowN (((z1.take len1).map Int.toNat).map fun h : Nat => V.D.int .u8 (h : Int)) ∨ V.rowD .u8 a1 len1 z1 = .lst (((z1.take len1).map Int.toNat).map fun h : Nat => V.D.int .u8 (h : Int)) := by
    rcases w1 with ⟨rfl, rfl, rfl, rfl⟩ | ⟨x, rfl, _⟩
    · exact .inl rfl
    · refine .inr ?_
      rw [← e1]
      rfl
  have hH : ∀ h ∈ (z1.take len1).map Int.toNat, h ≤ 255 := by
    intro h hm
    obtain ⟨n, hn, rfl⟩ := List.mem_map.1 hm
    have := b1 n hn
    omega
  have h : V.Holds Tryz.prog 3 [.agg [.int .i8 a0, .int .i8 b0, .int .i8 c0, .int .i8 e0], V.rowD .u8 a1 len1 z1] [.bool true] := (Tbf.all_ok (Tbf.law_ok (hb w0) (hb x0) (hb y0) (hb u0) hd hH)).1 rfl
  have ha : V.Rep (V.memOf W) (.agg [.int .i8 a0, .int .i8 b0, .int .i8 c0, .int .i8 e0]) (.agg #[.int .i8 a0, .int .i8 b0, .int .i8 c0, .int .i8 e0]) := by
    refine .agg _ [.int .i8 a0, .int .i8 b0, .int .i8 c0, .int .i8 e0] rfl (fun i y hy => ?_) (fun i y v hy hv => ?_)
    · match i, hy with
      | 0, hy | 1, hy | 2, hy | 3, hy => simp at hy; subst hy; rfl
    · match i, hy, hv with
      | 0, hy, hv | 1, hy, hv | 2, hy, hv | 3, hy, hv => simp at hy hv; subst hy; subst hv; exact .int _ _
  refine Calls.mono (h.calls W (V.memOf W) [.agg #[.int .i8 a0, .int .i8 b0, .int .i8 c0, .int .i8 e0], .slice a1 len1 cap1] (fun _ _ h => h) (V.args_cons ha (V.args_cons hrep1 V.args_nil))) fun e W' he => ?_
  obtain ⟨v, F', L', rfl, hE, _, hr⟩ := he
  cases hr with
  | dat _ _ h => cases h; exact ⟨rfl, hE.below⟩
end Go.Proofs.YtjofhegodknmaaaGreat.Say
