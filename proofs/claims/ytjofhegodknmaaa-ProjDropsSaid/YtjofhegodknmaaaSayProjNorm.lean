/- Structs whose numbers rise are normal: for all numbers. Mine. -/
import Derived.Test.YtjofhegodknmaaaSayProjNrun
set_option linter.unusedVariables false
set_option linter.unusedSimpArgs false
namespace Go.Proofs.Ytjofhegodknmaaa.Say
open Go Go.RowKit
open V (D)

/-- 40: the values' number -/
def sN (n : Int) (ks : List Int) (j : Nat) : D := if j = 40 then nI n else nI (ks.getD j 0)
theorem plainN (n : Int) (ks : List Int) : V.Plain (sN n ks) := by
  constructor
  · intro j
    unfold sN
    split <;> rfl
  · intro j
    unfold sN
    split <;> rfl
def nIs (ks : List Int) : List D := ks.map nI
theorem inNms (σ : Nat → D) (ks : List Int) (h : ∀ j, j < ks.length → σ j = nI (ks.getD j 0)) : (nms ks.length).map (V.inD σ) = nIs ks := by
  unfold nms nIs
  apply List.ext_getElem
  · simp
  · intro i h1 h2
    simp at h1
    simp only [List.getElem_map, List.getElem_range, V.inD]
    rw [h i h1]
    simp [h1]
theorem inRowD (σ : Nat → D) (l : List D) : V.inD σ (rowD l) = rowD (l.map (V.inD σ)) := by
  unfold rowD
  rw [List.length_map]
  split
  · rfl
  · simp only [V.inD, V.inDs_eq]
theorem inStD (σ : Nat → D) (n : D) (l : List D) : V.inD σ (stD n l) = stD (V.inD σ n) (l.map (V.inD σ)) := by
  have e : V.inD σ (rowD (l.map fun _ => vn n)) = rowD ((l.map (V.inD σ)).map fun _ => vn (V.inD σ n)) := by
    rw [inRowD, List.map_map, List.map_map]
    congr 1
  simp only [stD, V.inD, V.inDs, e, inRowD, mt, V.txt]
theorem normHolds (n : Int) {ks : List Int} (hl : ks.length ≤ 12) (hu : ks.Pairwise (· < ·)) : @V.Holds V.sig0 Try.prog 13 [stD (nI n) (nIs ks)] [stD (nI n) (nIs ks), .int .i64 0] := by
  have hP := plainN n ks
  have hs : ∀ j, j < ks.length → sN n ks j = nI (ks.getD j 0) := by
    intro j hj
    unfold sN
    rw [if_neg (by omega)]
  have hlt : ∀ k, k + 1 < ks.length → ks.getD k 0 < ks.getD (k + 1) 0 := by
    intro k hk
    have := List.pairwise_iff_getElem.1 hu k (k + 1) (by omega) hk (by omega)
    have h0 : k < ks.length := by omega
    simp only [List.getD, List.getElem?_eq_getElem h0, List.getElem?_eq_getElem hk, Option.getD_some]
    exact this
  have hf : ∀ f ∈ fN ks.length, @V.Fact.ok (V.sigOf (sN n ks)) Try.prog f := by
    letI : V.Sig := V.sigOf (sN n ks)
    intro f hf
    rcases List.mem_append.1 hf with hf | hf
    · obtain ⟨k, hk, rfl⟩ := List.mem_map.1 hf
      have hk' := List.mem_range.1 hk
      exact V.okc (k := .i64) (m := ks.getD k 0) (n := ks.getD k 0) (hs k hk') (hs k hk') (V.c_neqF rfl)
    · obtain ⟨k, hk, hf⟩ := List.mem_flatMap.1 hf
      have hk' : k + 1 < ks.length := by have := List.mem_range.1 hk; omega
      have h1 := hlt k hk'
      simp only [List.mem_cons, List.not_mem_nil, or_false] at hf
      rcases hf with rfl | rfl | rfl
      · exact V.okc (k := .i64) (m := ks.getD (k + 1) 0) (n := ks.getD k 0) (hs (k + 1) hk') (hs k (by omega)) (V.c_lssF (by omega))
      · exact V.okc (k := .i64) (m := ks.getD (k + 1) 0) (n := ks.getD k 0) (hs (k + 1) hk') (hs k (by omega)) (V.c_gtrT h1)
      · exact V.okc (k := .i64) (m := ks.getD k 0) (n := ks.getD (k + 1) 0) (hs k (by omega)) (hs (k + 1) hk') (V.c_eqlF (by omega))
  have hg : @V.Good (V.sigOf (sN n ks)) Try.prog (aN ks.length) := @V.Good.mk (V.sigOf (sN n ks)) _ _ named (fun _ _ _ h => nomatch h) (@V.orc_of (V.sigOf (sN n ks)) _ _ hf _ rfl) (@V.call_none (V.sigOf (sN n ks)) _ _ rfl)
  have hrun : V.tells Try.prog (aN ks.length) 400 13 [stD (.sym 40) (nms ks.length)] [stD (.sym 40) (nms ks.length), .int .i64 0] = true := by
    by_cases a : ks.length ≤ 7
    · exact List.all_eq_true.1 runN1 _ (by simp only [List.mem_cons, List.not_mem_nil, or_false]; omega)
    by_cases b : ks.length ≤ 10
    · exact List.all_eq_true.1 runN2 _ (by simp only [List.mem_cons, List.not_mem_nil, or_false]; omega)
    · exact List.all_eq_true.1 runN3 _ (by simp only [List.mem_cons, List.not_mem_nil, or_false]; omega)
  have r := V.Holds.ins hP (@V.holds_of_tells (V.sigOf (sN n ks)) _ _ hg regs follows _ _ _ _ hrun)
  simp only [V.inDs, inStD, inNms (sN n ks) ks hs, V.inD] at r
  exact r
end Go.Proofs.Ytjofhegodknmaaa.Say
