/- MeasureAll: on every value tree the program's depth and count are the reference's. -/
import Derived.Test.YtldgjbhejgklaaaMeasureAllVal
import Derived.Test.YtldgjbhejgklaaaPMeasureAllx
namespace Go.Proofs.Ytldgjbhejgklaaa.Plain
open Go.RowKit Go.Proofs.YtldgjbhejgklaaaW.PrintWords Go.Proofs.YtldgjbhejgklaaaW.PrintLast Go.Proofs.YtldgjbhejgklaaaW.PrintMore
open Go.Proofs.Ytldgjbhejgklaaa.PMeasureAll

theorem wrap_ix {j n : Nat} (h : j < n) (hn : n ≤ maxLen) : wrap64 ((j : Int) + 1) = ((j + 1 : Nat) : Int) := by
  unfold wrap64
  unfold maxLen at hn
  omega
theorem rd_nat (xs : List S25) (j : Nat) (h : j < xs.length) : rd_T25 xs (j : Int) = xs[j] := by
  unfold rd_T25
  simp [List.getD_eq_getElem?_getD, List.getElem?_eq_getElem h]

theorem depth_both (x : S25) (h : Ok25 x) : ∃ n K, ∀ k, K ≤ k → measure_Depth.f k x.f0 x.f1 x.f2 x.f3 x.f4 = some n ∧ assayerref13_Depth.f k x.f0 x.f1 x.f2 x.f3 x.f4 = some n := by
  induction h with
  | mk x h0 h1 h2 h3 hs h4 h5 ih =>
    have loop : ∀ d j (acc : Int), j + d = x.f3.length → ∃ n K, ∀ k, K ≤ k → measure_Depth.l0 k acc x.f3 (x.f3.length : Int) (j : Int) = some n ∧ assayerref13_Depth.l0 k acc (j : Int) x.f0 x.f1 x.f2 x.f3 x.f4 = some n := by
      intro d
      induction d with
      | zero =>
        intro j acc hj
        refine ⟨wrap64 (acc + 1), 1, fun k hk => ?_⟩
        obtain ⟨k, rfl⟩ : ∃ m, k = m + 1 := ⟨k - 1, by omega⟩
        constructor
        · simp only [measure_Depth.l0]; rw [if_neg (by omega)]
        · simp only [assayerref13_Depth.l0]; rw [if_neg (by omega)]
      | succ d ihd =>
        intro j acc hj
        have hjl : j < x.f3.length := by omega
        obtain ⟨n1, K1, H1⟩ := ih x.f3[j] (List.getElem_mem hjl)
        obtain ⟨n2, K2, H2⟩ := ihd (j + 1) (mx acc n1) (by omega)
        refine ⟨n2, max K1 K2 + 1, fun k hk => ?_⟩
        obtain ⟨k, rfl⟩ : ∃ m, k = m + 1 := ⟨k - 1, by omega⟩
        have g1 := H1 k (by omega)
        have g2 := H2 k (by omega)
        have hw := wrap_ix hjl h3
        constructor
        · simp only [measure_Depth.l0]
          rw [if_pos (by omega), if_pos (by omega), if_pos (by omega), rd_nat _ _ hjl, g1.1]
          simp only [Option.bind_some]
          rw [hw]
          exact g2.1
        · simp only [assayerref13_Depth.l0]
          rw [if_pos (by omega), if_pos (by omega), rd_nat _ _ hjl, g1.2]
          simp only [Option.bind_some]
          rw [hw]
          exact g2.2
    obtain ⟨n, K, H⟩ := loop x.f3.length 0 0 (by omega)
    have hh : measure_holds.f x.f0 x.f1 x.f2 x.f3 x.f4 = assayerref13_within.f x.f0 := by
      unfold measure_holds.f assayerref13_within.f
      repeat' split
      all_goals simp_all
    obtain ⟨b, hb⟩ : ∃ b, assayerref13_within.f x.f0 = some b := by
      unfold assayerref13_within.f
      repeat' split
      all_goals exact ⟨_, rfl⟩
    cases b with
    | true =>
      refine ⟨n, K + 1, fun k hk => ?_⟩
      obtain ⟨k, rfl⟩ : ∃ m, k = m + 1 := ⟨k - 1, by omega⟩
      have g := H k (by omega)
      constructor
      · simp only [measure_Depth.f]; rw [hh, hb]; simp only [Option.bind_some, if_true]; exact g.1
      · simp only [assayerref13_Depth.f]; rw [hb]; simp only [Option.bind_some, if_true]; exact g.2
    | false =>
      refine ⟨0, 1, fun k hk => ?_⟩
      obtain ⟨k, rfl⟩ : ∃ m, k = m + 1 := ⟨k - 1, by omega⟩
      constructor
      · simp only [measure_Depth.f]; rw [hh, hb]; rfl
      · simp only [assayerref13_Depth.f]; rw [hb]; rfl

theorem count_both (x : S25) (h : Ok25 x) : ∃ n K, ∀ k, K ≤ k → measure_Count.f k x.f0 x.f1 x.f2 x.f3 x.f4 = some n ∧ assayerref13_Count.f k x.f0 x.f1 x.f2 x.f3 x.f4 = some n := by
  induction h with
  | mk x h0 h1 h2 h3 hs h4 h5 ih =>
    have hh : measure_holds.f x.f0 x.f1 x.f2 x.f3 x.f4 = assayerref13_within.f x.f0 := by
      unfold measure_holds.f assayerref13_within.f
      repeat' split
      all_goals simp_all
    obtain ⟨b, hb⟩ : ∃ b, assayerref13_within.f x.f0 = some b := by
      unfold assayerref13_within.f
      repeat' split
      all_goals exact ⟨_, rfl⟩
    have loop : b = true → ∀ d j (acc : Int), j + d = x.f3.length → ∃ n K, ∀ k, K ≤ k → measure_Count.l0 k acc x.f3 (x.f3.length : Int) (j : Int) = some n ∧ assayerref13_Count.l0 k acc (j : Int) x.f0 x.f1 x.f2 x.f3 x.f4 = some n := by
      intro hbt d
      subst hbt
      induction d with
      | zero =>
        intro j acc hj
        refine ⟨acc, 1, fun k hk => ?_⟩
        obtain ⟨k, rfl⟩ : ∃ m, k = m + 1 := ⟨k - 1, by omega⟩
        constructor
        · simp only [measure_Count.l0]; rw [if_neg (by omega)]
        · simp only [assayerref13_Count.l0]; rw [if_neg (by omega)]
      | succ d ihd =>
        intro j acc hj
        have hjl : j < x.f3.length := by omega
        obtain ⟨n1, K1, H1⟩ := ih x.f3[j] (List.getElem_mem hjl)
        obtain ⟨n2, K2, H2⟩ := ihd (j + 1) (wrap64 (acc + n1)) (by omega)
        refine ⟨n2, max K1 K2 + 1, fun k hk => ?_⟩
        obtain ⟨k, rfl⟩ : ∃ m, k = m + 1 := ⟨k - 1, by omega⟩
        have g1 := H1 k (by omega)
        have g2 := H2 k (by omega)
        have hw := wrap_ix hjl h3
        constructor
        · simp only [measure_Count.l0]
          rw [if_pos (by omega), if_pos (by omega), if_pos (by omega), rd_nat _ _ hjl, g1.1]
          simp only [Option.bind_some]
          rw [hw]
          exact g2.1
        · simp only [assayerref13_Count.l0]
          rw [if_pos (by omega), hb]
          simp only [Option.bind_some, if_true]
          rw [if_pos (by omega), rd_nat _ _ hjl, g1.2]
          simp only [Option.bind_some]
          rw [hw]
          exact g2.2
    cases b with
    | true =>
      obtain ⟨n, K, H⟩ := loop rfl x.f3.length 0 1 (by omega)
      refine ⟨n, K + 1, fun k hk => ?_⟩
      obtain ⟨k, rfl⟩ : ∃ m, k = m + 1 := ⟨k - 1, by omega⟩
      have g := H k (by omega)
      constructor
      · simp only [measure_Count.f]; rw [hh, hb]; simp only [Option.bind_some, if_true]; exact g.1
      · simp only [assayerref13_Count.f]; exact g.2
    | false =>
      refine ⟨1, 2, fun k hk => ?_⟩
      obtain ⟨k, rfl⟩ : ∃ m, k = m + 2 := ⟨k - 2, by omega⟩
      constructor
      · simp only [measure_Count.f]; rw [hh, hb]; rfl
      · simp only [assayerref13_Count.f, assayerref13_Count.l0]
        split
        · rw [hb]; rfl
        · rfl

theorem count13_some (x : S25) (h : Ok25 x) : ∃ n K, ∀ k, K ≤ k → assayerlaw13_count.f k x.f0 x.f1 x.f2 x.f3 x.f4 = some n := by
  induction h with
  | mk x h0 h1 h2 h3 hs h4 h5 ih =>
    have loop : ∀ d j (acc : Int), j + d = x.f3.length → ∃ n K, ∀ k, K ≤ k → assayerlaw13_count.l0 k acc (j : Int) x.f0 x.f1 x.f2 x.f3 x.f4 = some n := by
      intro d
      induction d with
      | zero =>
        intro j acc hj
        refine ⟨acc, 1, fun k hk => ?_⟩
        obtain ⟨k, rfl⟩ : ∃ m, k = m + 1 := ⟨k - 1, by omega⟩
        simp only [assayerlaw13_count.l0]; rw [if_neg (by omega)]
      | succ d ihd =>
        intro j acc hj
        have hjl : j < x.f3.length := by omega
        obtain ⟨n1, K1, H1⟩ := ih x.f3[j] (List.getElem_mem hjl)
        obtain ⟨n2, K2, H2⟩ := ihd (j + 1) (wrap64 (acc + n1)) (by omega)
        refine ⟨n2, max K1 K2 + 1, fun k hk => ?_⟩
        obtain ⟨k, rfl⟩ : ∃ m, k = m + 1 := ⟨k - 1, by omega⟩
        have g1 := H1 k (by omega)
        have g2 := H2 k (by omega)
        have hw := wrap_ix hjl h3
        simp only [assayerlaw13_count.l0]
        rw [if_pos (by omega), if_pos (by omega), rd_nat _ _ hjl, g1]
        simp only [Option.bind_some]
        rw [hw]
        exact g2
    obtain ⟨n, K, H⟩ := loop x.f3.length 0 1 (by omega)
    refine ⟨n, K + 1, fun k hk => ?_⟩
    obtain ⟨k, rfl⟩ : ∃ m, k = m + 1 := ⟨k - 1, by omega⟩
    simp only [assayerlaw13_count.f]
    exact H k (by omega)

theorem begun_ok : assayerlaw18_begun.f 10 = some true := by decide +kernel
theorem begun_at (k : Nat) (h : 10 ≤ k) : assayerlaw18_begun.f k = some true := by
  obtain ⟨d, rfl⟩ := Nat.exists_eq_add_of_le h
  induction d with
  | zero => exact begun_ok
  | succ d ih => exact assayerlaw18_begun.mono (10 + d) _ (ih (by omega))

theorem MeasureAll (x : S25) (hO : Ok25 x) : ∃ k, assayerlaw18_MeasureAll.f k x.f0 x.f1 x.f2 x.f3 x.f4 = some true := by
  obtain ⟨n1, K1, H1⟩ := depth_both x hO
  obtain ⟨n2, K2, H2⟩ := count_both x hO
  obtain ⟨n3, K3, H3⟩ := count13_some x hO
  refine ⟨K1 + K2 + K3 + 10, ?_⟩
  have g1 := H1 (K1 + K2 + K3 + 10) (by omega)
  have g2 := H2 (K1 + K2 + K3 + 10) (by omega)
  have g3 := H3 (K1 + K2 + K3 + 10) (by omega)
  have hl : ∃ b, assayerlaw13_Light.f (K1 + K2 + K3 + 10) x.f0 x.f1 x.f2 x.f3 x.f4 = some b := by
    unfold assayerlaw13_Light.f
    rw [g2.2, g3]
    simp only [Option.bind_some]
    split
    · exact ⟨_, rfl⟩
    · exact ⟨_, rfl⟩
  obtain ⟨b, hl⟩ := hl
  unfold assayerlaw18_MeasureAll.f
  rw [begun_at _ (by omega), hl, g1.1, g1.2, g2.1, g2.2]
  simp only [Option.bind_some, if_true]
  cases b <;> simp
end Go.Proofs.Ytldgjbhejgklaaa.Plain
